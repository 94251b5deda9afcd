/-
  Counts by classes: the walks and the plain laws.
-/
import Derived.Test.YtnkpegdmbocgaaaSI
import Derived.Test.YtnkpegdmbocgaaaCM
namespace Go.Proofs.Ytnkpegdmbocgaaa
open Go Go.RowKit
-- in which class the one stands that has so many ahead of it
def rankI (L : List Int) : Nat → Nat → Int → Int
  | 0, _, _ => 0
  | j + 1, k, a => bif decide (a < L.getD k 0) then (k : Int) else rankI L j (k + 1) (IntKind.i64.wrap (a - max (L.getD k 0) 0))
def rankB (L : List Int) : Nat → Nat → Int → Bool
  | 0, _, _ => false
  | j + 1, k, a => bif decide (a < L.getD k 0) then true else rankB L j (k + 1) (IntKind.i64.wrap (a - max (L.getD k 0) 0))
def rank0 (L : List Int) (a : Int) : Int := bif decide (a < 0) then 0 else rankI L 14 0 a
def rank1 (L : List Int) (a : Int) : Bool := bif decide (a < 0) then false else rankB L 14 0 a
def rrC : List Cut := [(2, [1, 2, 6], [0], 1)]
def rrTm (a k : Int) : List AV := [.unk, vi a, .ptr 0 1 0 0, .unk, .unk, .unk, vi k] ++ List.replicate 21 .unk
def rrM (L : List Int) : MS := ⟨[(0, some ⟨true, false, .col (.ints .i64 L)⟩)], 1⟩
def rrIn (L : List Int) (k : Int) (r : Bool) : Bool := bif decide (0 ≤ k) then bif decide (k.toNat < 14) then bif decide (k.toNat < L.length) then r else false else false else false
theorem rr_in (c0 c1 c2 c3 c4 c5 c6 c7 c8 c9 c10 c11 c12 c13 a : Int) : F_ Try.prog [] Try.f34 rrC [] 99 [.agg [vi c0, vi c1, vi c2, vi c3, vi c4, vi c5, vi c6, vi c7, vi c8, vi c9, vi c10, vi c11, vi c12, vi c13], vi a] noMem =
    bif decide (a < 0) then some (Fin_.ret (.tup [vi 0, vb false]) ⟨[], 99⟩ true)
    else some (Fin_.head (hd Try.f34 0) (rrTm a 0) (rrM [c0, c1, c2, c3, c4, c5, c6, c7, c8, c9, c10, c11, c12, c13]) true) := by kernel_rfl
theorem rr_round (L : List Int) (k a : Int) : H_ Try.prog [] Try.f34 rrC [] 99 (hd Try.f34 0) (rrTm a k) (rrM L) =
    bif decide (k < 14) then
      bif decide (a < L.getD k.toNat 0) then some (Fin_.ret (.tup [vi k, vb true]) ⟨[], 99⟩ (rrIn L k true))
      else bif decide (0 < L.getD k.toNat 0) then some (Fin_.head (hd Try.f34 0) (rrTm (IntKind.i64.wrap (a - L.getD k.toNat 0)) (IntKind.i64.wrap (k + 1))) (rrM L) (rrIn L k (rrIn L k (rrIn L k true))))
      else some (Fin_.head (hd Try.f34 0) (rrTm a (IntKind.i64.wrap (k + 1))) (rrM L) (rrIn L k (rrIn L k true)))
    else some (Fin_.ret (.tup [vi 0, vb false]) ⟨[], 99⟩ true) := by kernel_rfl
theorem rrIn_ok {L : List Int} {k : Nat} {r : Bool} (h : k < 14) (hl : L.length = 14) : rrIn L (k : Int) r = r := by
  unfold rrIn
  rw [Int.toNat_natCast, decide_eq_true (show (0 : Int) ≤ k by omega), decide_eq_true h, decide_eq_true (show k < L.length by omega)]
  rfl
theorem rr_loop (L : List Int) (hl : L.length = 14) : ∀ (j k : Nat) (a : Int), k + j = 14 → 0 ≤ a → a ≤ 9223372036854775807 →
    Gives_ Try.prog Try.f34 0 ⟨hd Try.f34 0, rrTm a (k : Int), rrM L⟩ (.tup [vi (rankI L j k a), vb (rankB L j k a)]) ⟨[], 99⟩
  | 0, k, a, hk, h0, h1 => by
    refine H_ret (cuts := rrC) (ns := []) (top := 99) env_nil mixed rfl ?_
    rw [rr_round, decide_eq_false (show ¬ (k : Int) < 14 by omega)]
    rfl
  | j + 1, k, a, hk, h0, h1 => by
    unfold rankI rankB
    by_cases h : a < L.getD k 0
    · refine H_ret (cuts := rrC) (ns := []) (top := 99) env_nil mixed rfl ?_
      rw [rr_round, decide_eq_true (show (k : Int) < 14 by omega), Int.toNat_natCast, decide_eq_true h, rrIn_ok (by omega) hl]
      rfl
    · rw [decide_eq_false h]
      simp only [cond_false]
      refine Goes.gives (H_head (f := Try.f34) (cuts := rrC) (ns := []) (top := 99) (todo' := hd Try.f34 0) (tm' := rrTm (IntKind.i64.wrap (a - max (L.getD k 0) 0)) ((k + 1 : Nat) : Int)) (m' := rrM L) env_nil mixed rfl ?_) (rr_loop L hl j (k + 1) _ (by omega) ?_ ?_)
      · rw [rr_round, decide_eq_true (show (k : Int) < 14 by omega), Int.toNat_natCast, decide_eq_false h, rrIn_ok (by omega) hl, rrIn_ok (by omega) hl, rrIn_ok (by omega) hl, show IntKind.i64.wrap ((k : Int) + 1) = ((k + 1 : Nat) : Int) by rw [wr _ (by omega) (by omega)]; omega]
        by_cases hp : 0 < L.getD k 0
        · rw [decide_eq_true hp, show max (L.getD k 0) 0 = L.getD k 0 by omega]
          rfl
        · rw [decide_eq_false hp, show max (L.getD k 0) 0 = 0 by omega, show IntKind.i64.wrap (a - 0) = a by rw [wr _ (by omega) (by omega)]; omega]
          rfl
      · rw [wr _ (by omega) (by omega)]; omega
      · rw [wr _ (by omega) (by omega)]; omega
def e_rr : Spec := fun _ args => match args with
  | [.agg [.val (.int .i64 c0), .val (.int .i64 c1), .val (.int .i64 c2), .val (.int .i64 c3), .val (.int .i64 c4), .val (.int .i64 c5), .val (.int .i64 c6), .val (.int .i64 c7), .val (.int .i64 c8), .val (.int .i64 c9), .val (.int .i64 c10), .val (.int .i64 c11), .val (.int .i64 c12), .val (.int .i64 c13)], .val (.int .i64 a)] =>
    some (.tup [vi (rank0 [c0, c1, c2, c3, c4, c5, c6, c7, c8, c9, c10, c11, c12, c13] a), vb (rank1 [c0, c1, c2, c3, c4, c5, c6, c7, c8, c9, c10, c11, c12, c13] a)], none, [decide (a ≤ 9223372036854775807)])
  | _ => none
theorem ok_rr : SpecOk Try.prog 34 e_rr := fun m args v mo bs h hb => by
  unfold e_rr at h
  split at h
  · rename_i c0 c1 c2 c3 c4 c5 c6 c7 c8 c9 c10 c11 c12 c13 a
    cases h
    simp at hb
    have hin := rr_in c0 c1 c2 c3 c4 c5 c6 c7 c8 c9 c10 c11 c12 c13 a
    unfold rank0 rank1
    by_cases ha : a < 0
    · rw [decide_eq_true ha] at hin ⊢
      exact lift_ground (fsound (c := bodyOf Try.f34) (fun xs w => Try.call34 xs w) Try.func34 rfl (F_ret env_nil mixed rfl rfl hin)) rfl rfl
    · rw [decide_eq_false ha] at hin ⊢
      exact lift_ground (fsound (c := bodyOf Try.f34) (fun xs w => Try.call34 xs w) Try.func34 rfl
        (Goes.gives (F_head (f := Try.f34) (c := bodyOf Try.f34) (cuts := rrC) (ns := []) (top := 99) env_nil mixed rfl rfl hin) (rr_loop _ rfl 14 0 a (by omega) (by omega) hb))) rfl rfl
  · cases h
def e_cr : Spec := fun _ args => match args with
  | [.agg [.val (.int .i64 c0), .val (.int .i64 c1), .val (.int .i64 c2), .val (.int .i64 c3), .val (.int .i64 c4), .val (.int .i64 c5), .val (.int .i64 c6), .val (.int .i64 c7), .val (.int .i64 c8), .val (.int .i64 c9), .val (.int .i64 c10), .val (.int .i64 c11), .val (.int .i64 c12), .val (.int .i64 c13)], .val (.int .i64 a)] =>
    some (.tup [vi (rank0 [c0, c1, c2, c3, c4, c5, c6, c7, c8, c9, c10, c11, c12, c13] a), vb (rank1 [c0, c1, c2, c3, c4, c5, c6, c7, c8, c9, c10, c11, c12, c13] a)], none, [])
  | _ => none
theorem cr_0 (c0 c1 c2 c3 c4 c5 c6 c7 c8 c9 c10 c11 c12 c13 a : Int) : class_Rank_0 c0 c1 c2 c3 c4 c5 c6 c7 c8 c9 c10 c11 c12 c13 a = rank0 [c0, c1, c2, c3, c4, c5, c6, c7, c8, c9, c10, c11, c12, c13] a := by kernel_rfl
theorem cr_1 (c0 c1 c2 c3 c4 c5 c6 c7 c8 c9 c10 c11 c12 c13 a : Int) : class_Rank_1 c0 c1 c2 c3 c4 c5 c6 c7 c8 c9 c10 c11 c12 c13 a = rank1 [c0, c1, c2, c3, c4, c5, c6, c7, c8, c9, c10, c11, c12, c13] a := by kernel_rfl
theorem ok_cr : SpecOk Try.prog 33 e_cr := fun m args v mo bs h hb => by
  unfold e_cr at h
  split at h
  · cases h
    rw [← cr_0, ← cr_1]
    exact ok_class_Rank m _ _ none _ rfl rfl
  · cases h
-- how many are in each class
def cntF (zs : List Int) : Nat → Nat → List Int → List Int
  | _, 0, L => L
  | i, j + 1, L => cntF zs (i + 1) j (L.set (haymowref04_Of_0 (zs.getD i 0)).toNat (IntKind.i64.wrap (L.getD (haymowref04_Of_0 (zs.getD i 0)).toNat 0 + 1)))
def aggL (L : List Int) : AV := .agg [vi (L.getD 0 0), vi (L.getD 1 0), vi (L.getD 2 0), vi (L.getD 3 0), vi (L.getD 4 0), vi (L.getD 5 0), vi (L.getD 6 0), vi (L.getD 7 0), vi (L.getD 8 0), vi (L.getD 9 0), vi (L.getD 10 0), vi (L.getD 11 0), vi (L.getD 12 0), vi (L.getD 13 0)]
theorem of_bd (z : Int) : 0 ≤ haymowref04_Of_0 z ∧ haymowref04_Of_0 z ≤ 13 := by
  by_cases h : 8192 < z
  · unfold haymowref04_Of_0
    rw [decide_eq_true (show 1 < z by omega), decide_eq_true (show 2 < z by omega), decide_eq_true (show 4 < z by omega), decide_eq_true (show 8 < z by omega), decide_eq_true (show 16 < z by omega), decide_eq_true (show 32 < z by omega), decide_eq_true (show 64 < z by omega), decide_eq_true (show 128 < z by omega), decide_eq_true (show 256 < z by omega), decide_eq_true (show 512 < z by omega), decide_eq_true (show 1024 < z by omega), decide_eq_true (show 2048 < z by omega), decide_eq_true (show 4096 < z by omega)]
    simp only [cond_true]
    omega
  · by_cases h1 : 1 ≤ z
    · obtain ⟨j, hj, e, _⟩ := of_reg z h1 (by omega)
      omega
    · unfold haymowref04_Of_0
      rw [decide_eq_false (show ¬ 1 < z by omega)]
      simp only [cond_false]
      omega
def cnC : List Cut := [(2, [2, 3, 6, 7, 8], [0, 1, 2], 3)]
def cnTm (n c : Nat) (i : Int) : List AV := [.unk, .unk, .ptr 1 1 0 0, .ptr 2 1 0 0, .unk, .unk, .sl false 0 1 0 1 n (some c), vi n, vi i] ++ List.replicate 11 .unk
def cnM (zs L : List Int) : MS := ⟨[(0, some ⟨false, false, .col (.ints .i64 zs)⟩), (1, some ⟨true, false, .col (.ints .i64 (List.replicate 14 0))⟩), (2, some ⟨true, false, .col (.ints .i64 L)⟩)], 3⟩
def atB (i : Int) (n : Nat) (zs : List Int) (r : Bool) : Bool := bif decide (0 ≤ i) then bif decide (i.toNat < n) then bif decide (i.toNat < zs.length) then r else false else false else false
def inB (k : Int) (L : List Int) (r : Bool) : Bool := bif decide (0 ≤ k) then bif decide (k.toNat < 14) then bif decide (k.toNat < L.length) then r else false else false else false
theorem cn_in (n c : Nat) (zs : List Int) : F_ Try.prog L_haymowlaw04_awake Try.f32 cnC [] 99 [.sl false 0 1 0 1 n (some c)] ⟨[(0, some ⟨false, false, .col (.ints .i64 zs)⟩)], 1⟩ =
    some (Fin_.head (hd Try.f32 0) (cnTm n c 0) (cnM zs (List.replicate 14 0)) true) := by kernel_rfl
def ldB (L : List Int) (r : Bool) : Bool := bif decide (0 < L.length) then bif decide (1 < L.length) then bif decide (2 < L.length) then bif decide (3 < L.length) then bif decide (4 < L.length) then bif decide (5 < L.length) then bif decide (6 < L.length) then bif decide (7 < L.length) then
  bif decide (8 < L.length) then bif decide (9 < L.length) then bif decide (10 < L.length) then bif decide (11 < L.length) then bif decide (12 < L.length) then bif decide (13 < L.length) then r else false else false else false else false else false else false else false else false else false else false else false else false else false else false
theorem ldB_ok {L : List Int} {r : Bool} (h : L.length = 14) : ldB L r = r := by unfold ldB; rw [h]; rfl
theorem cn_round (n c : Nat) (zs L : List Int) (i : Int) : H_ Try.prog L_haymowlaw04_awake Try.f32 cnC [] 99 (hd Try.f32 0) (cnTm n c i) (cnM zs L) =
    bif decide (i < n) then
      some (Fin_.head (hd Try.f32 0) (cnTm n c (IntKind.i64.wrap (i + 1))) (cnM zs (L.set (class_Of_0 (zs.getD i.toNat 0)).toNat (IntKind.i64.wrap (L.getD (class_Of_0 (zs.getD i.toNat 0)).toNat 0 + 1))))
        (atB i n zs (bif c_class_Of (zs.getD i.toNat 0) then inB (class_Of_0 (zs.getD i.toNat 0)) L (inB (class_Of_0 (zs.getD i.toNat 0)) L true) else false)))
    else some (Fin_.ret (aggL L) ⟨[], 99⟩ (ldB L true)) := by kernel_rfl
theorem atB_ok {i n : Nat} {zs : List Int} {r : Bool} (h : i < n) (hz : n ≤ zs.length) : atB (i : Int) n zs r = r := by
  unfold atB
  rw [Int.toNat_natCast, decide_eq_true (show (0 : Int) ≤ i by omega), decide_eq_true h, decide_eq_true (show i < zs.length by omega)]
  rfl
theorem inB_ok {z : Int} {L : List Int} {r : Bool} (hl : L.length = 14) : inB (haymowref04_Of_0 z) L r = r := by
  obtain ⟨h0, h1⟩ := of_bd z
  unfold inB
  rw [hl, decide_eq_true h0, decide_eq_true (show (haymowref04_Of_0 z).toNat < 14 by omega)]
  rfl
def rngB (zs : List Int) : Bool := zs.all fun z => decide (-9223372036854775808 ≤ z) && decide (z ≤ 9223372036854775807)
theorem rng_at {zs : List Int} (h : rngB zs = true) (i : Nat) : -9223372036854775808 ≤ zs.getD i 0 ∧ zs.getD i 0 ≤ 9223372036854775807 := by
  by_cases hi : i < zs.length
  · have := List.all_eq_true.1 h (zs.getD i 0) (by simp [hi])
    simpa using this
  · simp [List.getD_eq_getElem?_getD, List.getElem?_eq_none (show zs.length ≤ i by omega)]
theorem cn_loop (n c : Nat) (hn : n ≤ 9223372036854775807) (zs : List Int) (hz : n ≤ zs.length) (hr : rngB zs = true) : ∀ (j i : Nat) (L : List Int), i + j = n → L.length = 14 →
    Gives_ Try.prog Try.f32 1 ⟨hd Try.f32 0, cnTm n c i, cnM zs L⟩ (aggL (cntF zs i j L)) ⟨[], 99⟩
  | 0, i, L, hi, hl => by
    refine H_ret (cuts := cnC) (ns := []) (top := 99) hE_haymowlaw04_awake mixed rfl ?_
    rw [cn_round, decide_eq_false (show ¬ (i : Int) < n by omega), ldB_ok hl]
    rfl
  | j + 1, i, L, hi, hl => by
    obtain ⟨k1, k2⟩ := class_of (zs.getD i 0) (rng_at hr i).1 (rng_at hr i).2
    refine Goes.gives (H_head (f := Try.f32) (cuts := cnC) (ns := []) (top := 99) (todo' := hd Try.f32 0) (tm' := cnTm n c ((i + 1 : Nat) : Int)) (m' := cnM zs (L.set (haymowref04_Of_0 (zs.getD i 0)).toNat (IntKind.i64.wrap (L.getD (haymowref04_Of_0 (zs.getD i 0)).toNat 0 + 1)))) hE_haymowlaw04_awake mixed rfl ?_) (cn_loop n c hn zs hz hr j (i + 1) _ (by omega) (by simpa using hl))
    rw [cn_round, decide_eq_true (show (i : Int) < n by omega), Int.toNat_natCast, k1, k2, atB_ok (by omega) hz, inB_ok hl, inB_ok hl, show IntKind.i64.wrap ((i : Int) + 1) = ((i + 1 : Nat) : Int) by rw [wr _ (by omega) (by omega)]; omega]
    rfl
def e_cnt : Spec := fun m args => match args with
  | [.sl false l 1 0 1 n (some c)] => match look m.bl l with
    | some ⟨_, _, .col (.ints .i64 zs)⟩ => some (aggL (cntF zs 0 n (List.replicate 14 0)), none, [decide (n ≤ 9223372036854775807), decide (n ≤ zs.length), rngB zs])
    | _ => none
  | _ => none
theorem ok_cnt : SpecOk Try.prog 32 e_cnt := fun m args v mo bs h hb => by
  unfold e_cnt at h
  split at h
  · rename_i l n c
    split at h
    · rename_i wr op zs hl
      cases h
      simp only [List.all_cons, List.all_nil, id, Bool.and_eq_true, decide_eq_true_eq] at hb
      exact lift_one (ar := []) (br := []) hl rfl (fsound (c := bodyOf Try.f32) (fun xs w => Try.call32 xs w) Try.func32 rfl
        (Goes.gives (F_head (f := Try.f32) (c := bodyOf Try.f32) (cuts := cnC) (ns := []) (top := 99) hE_haymowlaw04_awake mixed rfl rfl (cn_in n c zs)) (cn_loop n c hb.1 zs hb.2.1 hb.2.2.1 n 0 _ (by omega) rfl))) rfl rfl rfl rfl
    · cases h
  · cases h
def L_cc : List (FuncId × Spec) := (32, e_cnt) :: (33, e_cr) :: (34, e_rr) :: L_haymowlaw04_awake
theorem hE_cc : ESound Try.prog (envOf L_cc) := env_cons ok_cnt (env_cons ok_cr (env_cons ok_rr hE_haymowlaw04_awake))
end Go.Proofs.Ytnkpegdmbocgaaa
