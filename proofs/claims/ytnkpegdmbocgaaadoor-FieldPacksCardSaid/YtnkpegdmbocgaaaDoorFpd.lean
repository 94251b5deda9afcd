/-
  What the program's functions hand back.
-/
import Derived.Test.YtnkpegdmbocgaaaDoorFpc
namespace Go.Proofs.YtnkpegdmbocgaaaDoor
open Go Go.RowKit
set_option maxRecDepth 100000
def inU (ns : List Int) : Bool := ns.all fun z => decide (0 ≤ z) && decide (z ≤ 18446744073709551615)
theorem inU_at {ns : List Int} (h : inU ns = true) (i : Nat) : ∃ k : Nat, ns.getD i 0 = k ∧ k < 2 ^ 64 := by
  unfold inU at h
  rw [List.all_eq_true] at h
  by_cases c : i < ns.length
  · have := h (ns[i]) (List.getElem_mem c)
    simp only [Bool.and_eq_true, decide_eq_true_eq] at this
    refine ⟨(ns.getD i 0).toNat, ?_, ?_⟩ <;> simp only [List.getD_eq_getElem?_getD, List.getElem?_eq_getElem c, Option.getD_some] <;> omega
  · refine ⟨0, ?_, by decide⟩
    rw [List.getD_eq_getElem?_getD, List.getElem?_eq_none (by omega)]; rfl
abbrev L_pk : List (FuncId × Spec) := (20, e_far) :: L_field_Ones
theorem hE_pk : ESound Tryd.prog (envOf L_pk) := env_cons ok_far hE_field_Ones
abbrev pkC : List Cut := [(0, [1, 6, 21, 22, 23], [0, 1], 2), (1, [1, 6, 21, 22, 23], [0, 1], 2), (2, [1, 6, 21, 22, 23], [0, 1], 2), (3, [1, 6, 21, 22, 23], [0, 1], 2), (4, [1, 6, 21, 22, 23], [0, 1], 2)]
abbrev pkM (az ss ns : List Int) : MS := ⟨[(0, some (frB az ss)), (1, some ⟨false, false, .col (.ints .u64 ns)⟩)], 2⟩
abbrev pkT (nn mm : Bool) (n k : Nat) (c d : Option Nat) (w i : Int) : List AV := [.unk, .sl mm 1 1 0 1 k d, .unk, .unk, .unk, .unk, vu w, .unk, .unk, .unk, .unk, .unk, .unk, .unk, .unk, .unk, .unk, .unk, .unk, .unk, .unk, .sl nn 0 2 0 1 n c, vi n, vi i, .unk, .unk, .unk, .unk, .unk, .unk, .unk, .unk, .unk, .unk, .unk, .unk, .unk, .unk, .unk, .unk, .unk, .unk, .unk, .unk]
abbrev pkO (az ss ns : List Int) (n k : Nat) (w i : Int) : List Bool := [decide (0 ≤ i), decide (i.toNat < n), decide (smI i < az.length), decide (smI i < ss.length), decide (0 ≤ i), decide (i.toNat < k), decide (smI i < ns.length), c_field_Put w (az.getD (smI i) 0) (ss.getD (smI i) 0) (ns.getD (smI i) 0)]
theorem pk_begin (nn mm : Bool) (az ss ns : List Int) (n k : Nat) (c d : Option Nat) : F_ Tryd.prog L_pk Tryd.f21 pkC [] 99 [.sl nn 0 2 0 1 n c, .sl mm 1 1 0 1 k d] (pkM az ss ns) =
    bif (bif !apF az ss 0 n 0 then true else (n : Int) != (k : Int)) then some (.ret (.tup [vu 0, vi 1]) ⟨[], 99⟩ (conj [Nat.ble n az.length, Nat.ble n ss.length, Nat.ble n 9223372036854775807]))
    else some (.head (hd Tryd.f21 0) (pkT nn mm n k c d 0 0) (pkM az ss ns) (conj [Nat.ble n az.length, Nat.ble n ss.length, Nat.ble n 9223372036854775807])) := by kernel_rfl
theorem pk_round (nn mm : Bool) (az ss ns : List Int) (n k : Nat) (c d : Option Nat) (w i : Int) : H_ Tryd.prog L_pk Tryd.f21 pkC [] 99 (hd Tryd.f21 0) (pkT nn mm n k c d w i) (pkM az ss ns) =
    bif decide (i < (n : Int)) then bif field_Put_1 w (az.getD (smI i) 0) (ss.getD (smI i) 0) (ns.getD (smI i) 0) != 0 then some (.ret (.tup [vu 0, vi (field_Put_1 w (az.getD (smI i) 0) (ss.getD (smI i) 0) (ns.getD (smI i) 0))]) ⟨[], 99⟩ (conj (pkO az ss ns n k w i)))
      else some (.head (hd Tryd.f21 0) (pkT nn mm n k c d (field_Put_0 w (az.getD (smI i) 0) (ss.getD (smI i) 0) (ns.getD (smI i) 0)) (IntKind.i64.wrap (i + 1))) (pkM az ss ns) (conj (pkO az ss ns n k w i)))
    else some (.ret (.tup [vu w, vi 0]) ⟨[], 99⟩ true) := by kernel_rfl
def pkF (az ss ns : List Int) : Nat → Nat → Int → Int × Int
  | _, 0, w => (w, 0)
  | i, j + 1, w => bif field_Put_1 w (az.getD i 0) (ss.getD i 0) (ns.getD i 0) != 0 then (0, field_Put_1 w (az.getD i 0) (ss.getD i 0) (ns.getD i 0)) else pkF az ss ns (i + 1) j (field_Put_0 w (az.getD i 0) (ss.getD i 0) (ns.getD i 0))
theorem pk_loop (nn mm : Bool) (az ss ns : List Int) (n : Nat) (c d : Option Nat) (h1 : n ≤ az.length) (h2 : n ≤ ss.length) (h3 : n ≤ ns.length) (hu : inU ns = true) (hn : n ≤ 9223372036854775807) : ∀ (j i : Nat) (w : Int), i + j = n →
    Gives_ Tryd.prog Tryd.f21 2 ⟨hd Tryd.f21 0, pkT nn mm n n c d w i, pkM az ss ns⟩ (.tup [vu (pkF az ss ns i j w).1, vi (pkF az ss ns i j w).2]) ⟨[], 99⟩
  | 0, i, w, hi => by
    have h := pk_round nn mm az ss ns n n c d w i
    rw [decide_eq_false (show ¬ (i : Int) < n by omega), cond_false] at h
    exact H_ret hE_pk mixed rfl h
  | j + 1, i, w, hi => by
    have h := pk_round nn mm az ss ns n n c d w i
    have hw : IntKind.i64.wrap ((i : Int) + 1) = ((i + 1 : Nat) : Int) := by rw [IntWalk.i64_in _ (by omega)]; rfl
    obtain ⟨q, hq, hq2⟩ := inU_at hu i
    have hc : conj (pkO az ss ns n n w i) = true := by
      simp only [pkO, conj, smI_eq, Int.toNat_natCast]
      rw [hq, cPutI _ _ _ _ hq2, decide_eq_true (show (0 : Int) ≤ i by omega), decide_eq_true (show i < n by omega), decide_eq_true (show i < az.length by omega), decide_eq_true (show i < ss.length by omega), decide_eq_true (show i < ns.length by omega)]
      rfl
    rw [hc, decide_eq_true (show (i : Int) < n by omega), cond_true, hw, smI_eq] at h
    simp only [pkF]
    cases hb : (field_Put_1 w (az.getD i 0) (ss.getD i 0) (ns.getD i 0) != 0) with
    | true => rw [hb] at h; exact H_ret hE_pk mixed rfl h
    | false => rw [hb] at h; exact Goes.gives (H_head hE_pk mixed rfl h) (pk_loop nn mm az ss ns n c d h1 h2 h3 hu hn j (i + 1) _ (by omega))
def pkV (az ss ns : List Int) (n k : Nat) : Int × Int := bif (bif !apF az ss 0 n 0 then true else (n : Int) != (k : Int)) then (0, 1) else pkF az ss ns 0 n 0
def e_pack : Spec := fun m args => match args with
  | [.sl _ l 2 0 1 n _, .sl _ l' 1 0 1 k _] => match look m.bl l, look m.bl l' with
    | some ⟨_, _, .rows [.ints .i64 az, .ints .i64 ss]⟩, some ⟨_, _, .col (.ints .u64 ns)⟩ => some (.tup [vu (pkV az ss ns n k).1, vi (pkV az ss ns n k).2], none, [Nat.ble n az.length, Nat.ble n ss.length, Nat.ble n 9223372036854775807, Nat.ble k ns.length, inU ns])
    | _, _ => none
  | _ => none
theorem pk_all (nn mm : Bool) (az ss ns : List Int) (n k : Nat) (c d : Option Nat) (h1 : n ≤ az.length) (h2 : n ≤ ss.length) (h3 : k ≤ ns.length) (hu : inU ns = true) (hn : n ≤ 9223372036854775807) :
    FSound Tryd.prog 21 (pkM az ss ns) [.sl nn 0 2 0 1 n c, .sl mm 1 1 0 1 k d] (.tup [vu (pkV az ss ns n k).1, vi (pkV az ss ns n k).2]) ⟨[], 99⟩ := by
  have h := pk_begin nn mm az ss ns n k c d
  have hb : ∀ a b : Nat, a ≤ b → Nat.ble a b = true := fun a b h => Nat.ble_eq_true_of_le h
  rw [hb _ _ h1, hb _ _ h2, hb _ _ hn] at h
  refine fsound (c := bodyOf Tryd.f21) (fun xs w => Tryd.call21 xs w) Tryd.func21 rfl ?_
  unfold pkV
  cases e : (bif !apF az ss 0 n 0 then true else (n : Int) != (k : Int)) with
  | true => rw [e] at h; exact F_ret hE_pk mixed rfl rfl h
  | false =>
    rw [e] at h
    have hk : n = k := by
      cases ha : apF az ss 0 n 0 with
      | false => rw [ha] at e; cases e
      | true =>
        rw [ha] at e
        have : ((n : Int) != (k : Int)) = false := e
        have := bne_eq_false_iff_eq.1 this
        omega
    subst hk
    exact Goes.gives (F_head (c := bodyOf Tryd.f21) hE_pk mixed rfl rfl h) (pk_loop nn mm az ss ns n c d h1 h2 h3 hu hn n 0 0 (by omega))
theorem ok_pack : SpecOk Tryd.prog 21 e_pack := fun m args v mo bs h hb => by
  unfold e_pack at h
  split at h
  · rename_i nn l n c mm l' k d
    split at h
    · rename_i wr op az ss wr' op' ns hl hl'
      cases h
      simp only [List.all_cons, List.all_nil, id, Bool.and_eq_true, Bool.and_true] at hb
      exact lift_2 hl hl' rfl rfl (pk_all nn mm az ss ns n k c d (Nat.le_of_ble_eq_true hb.1) (Nat.le_of_ble_eq_true hb.2.1) (Nat.le_of_ble_eq_true hb.2.2.2.1) hb.2.2.2.2 (Nat.le_of_ble_eq_true hb.2.2.1)) rfl
    · cases h
  · cases h
def e_ra0 : Spec := fun _ args => match args with
  | [.val (.slice none 0 0)] => some (vb true, none, [])
  | _ => none
theorem run_ra0 : F_ Tryd.prog L_field_Ones Tryd.f22 [] [] 99 [.val (.slice none 0 0)] noMem = some (.ret (vb true) ⟨[], 99⟩ true) := by kernel_rfl
theorem ok_ra0 : SpecOk Tryd.prog 22 e_ra0 := fun m args v mo bs h hb => by
  unfold e_ra0 at h
  split at h
  · cases h
    exact pure_fn (c := bodyOf Tryd.f22) hE_field_Ones mixed (fun xs w => Tryd.call22 xs w) Tryd.func22 rfl run_ra0 rfl rfl
  · cases h
abbrev L_w4 (P : Program) (f : Func) : List (FuncId × Spec) := (20, e_far) :: (21, e_pack) :: (22, orS e_rar e_ra0) :: L_w2 P f
theorem hE_w4 : ESound Tryd.prog (envOf (L_w4 Tryd.prog Tryd.f10)) := env_cons ok_far (env_cons ok_pack (env_cons (orS_ok ok_rar ok_ra0) hE_w2))
end Go.Proofs.YtnkpegdmbocgaaaDoor

namespace Go.Proofs.YtnkpegdmbocgaaaDoor
open Go Go.RowKit
theorem or_and_zero {a b c : Nat} (h : (a ||| b) &&& c = 0) : a &&& c = 0 ∧ b &&& c = 0 := by
  rw [Nat.and_or_distrib_right] at h
  exact Nat.or_eq_zero_iff.1 h
/-- A field's numbers. -/
def fA (az : List Int) (i : Nat) : Nat := (az.getD i 0).toNat
theorem right_at {az ss : List Int} {i : Nat} (h : haymowref02_Right_0 (az.getD i 0) (ss.getD i 0) = true) : az.getD i 0 = (fA az i : Int) ∧ ss.getD i 0 = (fA ss i : Int) ∧ 1 ≤ fA ss i ∧ fA az i + fA ss i ≤ 64 := by
  obtain ⟨h1, h2, h3, h4⟩ := (right_iff _ _).1 h
  exact ⟨by unfold fA; omega, by unfold fA; omega, by unfold fA; omega, by unfold fA; omega⟩
theorem apF_step (az ss : List Int) (i j U : Nat) (hU : U < 2 ^ 64) (hr : haymowref02_Right_0 (az.getD i 0) (ss.getD i 0) = true) : apF az ss i (j + 1) U = bif ((U &&& maskN (fA az i) (fA ss i) : Nat) : Int) != 0 then false else apF az ss (i + 1) j ((U ||| maskN (fA az i) (fA ss i) : Nat) : Int) := by
  obtain ⟨e1, e2, h1, h2⟩ := right_at hr
  simp only [apF]
  rw [mask_zero, hr, e1, e2, mask_eq _ _ h1 h2, andU _ _ hU (maskN_lt _ _ h2), orU _ _ hU (maskN_lt _ _ h2)]
  rfl
theorem apF_no (az ss : List Int) (i j : Nat) (U : Int) (hr : haymowref02_Right_0 (az.getD i 0) (ss.getD i 0) = false) : apF az ss i (j + 1) U = false := by
  simp only [apF]
  rw [mask_zero, hr]
  rfl
/-- All fields may be, and no two share a bit. -/
structure Good (az ss : List Int) (U i j : Nat) : Prop where
  right : ∀ m, i ≤ m → m < i + j → haymowref02_Right_0 (az.getD m 0) (ss.getD m 0) = true
  free : ∀ m, i ≤ m → m < i + j → U &&& maskN (fA az m) (fA ss m) = 0
  dis : ∀ m m', i ≤ m → m < m' → m' < i + j → maskN (fA az m) (fA ss m) &&& maskN (fA az m') (fA ss m') = 0
theorem apF_good (az ss : List Int) : ∀ (j i U : Nat), U < 2 ^ 64 → apF az ss i j U = true → Good az ss U i j
  | 0, i, U, hU, h => ⟨fun m h1 h2 => by omega, fun m h1 h2 => by omega, fun m m' h1 h2 h3 => by omega⟩
  | j + 1, i, U, hU, h => by
    cases hr : haymowref02_Right_0 (az.getD i 0) (ss.getD i 0) with
    | false => rw [apF_no _ _ _ _ _ hr] at h; cases h
    | true =>
      obtain ⟨e1, e2, h1, h2⟩ := right_at hr
      rw [apF_step az ss i j U hU hr] at h
      cases hb : (((U &&& maskN (fA az i) (fA ss i) : Nat) : Int) != 0) with
      | true => rw [hb] at h; cases h
      | false =>
        rw [hb] at h
        have hz : U &&& maskN (fA az i) (fA ss i) = 0 := by simpa using hb
        have G := apF_good az ss j (i + 1) _ (Nat.or_lt_two_pow hU (maskN_lt _ _ h2)) h
        refine ⟨fun m g1 g2 => ?_, fun m g1 g2 => ?_, fun m m' g1 g2 g3 => ?_⟩
        · by_cases e : m = i
          · subst e; exact hr
          · exact G.right m (by omega) (by omega)
        · by_cases e : m = i
          · subst e; exact hz
          · exact (or_and_zero (G.free m (by omega) (by omega))).1
        · by_cases e : m = i
          · subst e; exact (or_and_zero (G.free m' (by omega) (by omega))).2
          · exact G.dis m m' (by omega) g2 (by omega)
theorem set_at (bs : List Bool) (k m : Nat) (hk : k < bs.length) : (bs.set k true).getD m false = (bs.getD m false || decide (m = k)) := by
  simp only [List.getD_eq_getElem?_getD]
  by_cases e : m = k
  · subst e; rw [List.getElem?_set_self hk, decide_eq_true rfl, Bool.or_true]; rfl
  · rw [List.getElem?_set_ne (Ne.symm e)]; simp [e]
theorem takeB_spec : ∀ (j k : Nat) (bs : List Bool), k + j ≤ bs.length → match takeB bs k j with
    | some bs' => (∀ m, k ≤ m → m < k + j → bs.getD m false = false) ∧ ∀ m, bs'.getD m false = (bs.getD m false || (decide (k ≤ m) && decide (m < k + j)))
    | none => ∃ m, k ≤ m ∧ m < k + j ∧ bs.getD m false = true
  | 0, k, bs, h => ⟨fun m h1 h2 => by omega, fun m => by
      have : (decide (k ≤ m) && decide (m < k + 0)) = false := by simp
      rw [this, Bool.or_false]⟩
  | j + 1, k, bs, h => by
    simp only [takeB]
    cases hb : bs.getD k false with
    | true => exact ⟨k, by omega, by omega, hb⟩
    | false =>
      rw [cond_false]
      have IH := takeB_spec j (k + 1) (bs.set k true) (by simp; omega)
      cases ht : takeB (bs.set k true) (k + 1) j with
      | some bs' =>
        rw [ht] at IH
        refine ⟨fun m h1 h2 => ?_, fun m => ?_⟩
        · by_cases e : m = k
          · subst e; exact hb
          · have := IH.1 m (by omega) (by omega)
            rw [set_at _ _ _ (by omega)] at this
            simp only [Bool.or_eq_false_iff] at this
            exact this.1
        · rw [IH.2 m, set_at _ _ _ (by omega), Bool.or_assoc]
          congr 1
          by_cases e : m = k
          · subst e; simp
          · by_cases g : k ≤ m ∧ m < k + (j + 1)
            · have : k + 1 ≤ m ∧ m < k + 1 + j := by omega
              simp [e, g, this]
            · have g1 : (decide (k ≤ m) && decide (m < k + (j + 1))) = false := by simp; omega
              have g2 : (decide (k + 1 ≤ m) && decide (m < k + 1 + j)) = false := by simp; omega
              rw [g1, g2]; simp [e]
      | none =>
        rw [ht] at IH
        obtain ⟨m, h1, h2, h3⟩ := IH
        rw [set_at _ _ _ (by omega)] at h3
        exact ⟨m, by omega, by omega, by simpa [show m ≠ k by omega] using h3⟩
theorem getD_take (l : List Int) {n i : Nat} (h : i < n) : (l.take n).getD i 0 = l.getD i 0 := by
  rw [List.getD_eq_getElem?_getD, List.getD_eq_getElem?_getD, List.getElem?_take_of_lt h]
theorem raF_eq (az ss : List Int) (n : Nat) : ∀ (j i U : Nat) (bs : List Bool), i + j ≤ n → U < 2 ^ 64 → bs.length = 64 → (∀ k, U.testBit k = bs.getD k false) → raF (az.take n) (ss.take n) i j bs = apF az ss i j U
  | 0, _, _, _, _, _, _, _ => rfl
  | j + 1, i, U, bs, hn, hU, hb, hU2 => by
    simp only [raF]
    rw [getD_take az (by omega), getD_take ss (by omega)]
    cases hr : haymowref02_Right_0 (az.getD i 0) (ss.getD i 0) with
    | false => rw [apF_no _ _ _ _ _ hr]; rfl
    | true =>
      obtain ⟨e1, e2, h1, h2⟩ := right_at hr
      rw [apF_step az ss i j U hU hr]
      simp only [Bool.not_true, cond_false]
      have T := takeB_spec (fA ss i) (fA az i) bs (by omega)
      rw [show takeB bs (az.getD i 0).toNat (ss.getD i 0).toNat = takeB bs (fA az i) (fA ss i) from rfl]
      cases ht : takeB bs (fA az i) (fA ss i) with
      | some bs' =>
        rw [ht] at T
        have hz : U &&& maskN (fA az i) (fA ss i) = 0 := by
          apply Nat.eq_of_testBit_eq
          intro m
          rw [Nat.testBit_and, maskN_bit, Nat.zero_testBit, hU2]
          by_cases g : fA az i ≤ m ∧ m < fA az i + fA ss i
          · rw [T.1 m g.1 g.2]; rfl
          · have : (decide (fA az i ≤ m) && decide (m < fA az i + fA ss i)) = false := by simp; omega
            rw [this, Bool.and_false]
        rw [hz]
        refine raF_eq az ss n j (i + 1) _ bs' (by omega) (Nat.or_lt_two_pow hU (maskN_lt _ _ h2)) (by rw [takeB_len _ _ _ _ ht]; exact hb) fun m => ?_
        rw [Nat.testBit_or, maskN_bit, hU2, T.2 m]
      | none =>
        rw [ht] at T
        obtain ⟨m, g1, g2, g3⟩ := T
        have hz : U &&& maskN (fA az i) (fA ss i) ≠ 0 := fun e => by
          have : (U &&& maskN (fA az i) (fA ss i)).testBit m = false := by rw [e]; exact Nat.zero_testBit m
          rw [Nat.testBit_and, maskN_bit, hU2, g3] at this
          rw [decide_eq_true g1, decide_eq_true g2] at this
          cases this
        have : (((U &&& maskN (fA az i) (fA ss i) : Nat) : Int) != 0) = true := by simpa using hz
        rw [this]
        rfl
theorem pkF_fit (az ss ns : List Int) (i j q v : Nat) (hq : q < 2 ^ 64) (hr : haymowref02_Right_0 (az.getD i 0) (ss.getD i 0) = true) (hv : ns.getD i 0 = v) (hf : v < 2 ^ fA ss i) : pkF az ss ns i (j + 1) q = pkF az ss ns (i + 1) j (putN q (fA az i) (fA ss i) v : Nat) := by
  obtain ⟨e1, e2, h1, h2⟩ := right_at hr
  simp only [pkF]
  rw [e1, e2, hv, put_ok _ _ _ _ h1 h2 hf, put_eq _ _ _ _ hq hf h1 h2]
  rfl
theorem pkF_not (az ss ns : List Int) (i j q v : Nat) (hr : haymowref02_Right_0 (az.getD i 0) (ss.getD i 0) = true) (hv : ns.getD i 0 = v) (hv2 : v < 2 ^ 64) (hf : ¬ v < 2 ^ fA ss i) : pkF az ss ns i (j + 1) q = (0, 2) := by
  obtain ⟨e1, e2, h1, h2⟩ := right_at hr
  simp only [pkF]
  rw [e1, e2, hv, (put_no _ _ _ _ h1 h2 hv2 hf).2]
  rfl
/-- What was packed is read. -/
theorem pkF_get (az ss ns : List Int) (hu : inU ns = true) (B : Nat) : ∀ (j i q w : Nat), q < 2 ^ 64 → i + j = B → (∀ m, i ≤ m → m < B → haymowref02_Right_0 (az.getD m 0) (ss.getD m 0) = true) →
    (∀ m m', m < m' → i ≤ m' → m' < B → Dis (fA az m') (fA ss m') (fA az m) (fA ss m)) → (∀ m, i ≤ m → m < B → fA ns m < 2 ^ fA ss m) → pkF az ss ns i j q = ((w : Int), 0) → (∀ m, m < i → getN q (fA az m) (fA ss m) = fA ns m) → w < 2 ^ 64 ∧ ∀ m, m < B → getN w (fA az m) (fA ss m) = fA ns m
  | 0, i, q, w, hq, hi, _, _, _, h, hg => by
    simp only [pkF, Prod.mk.injEq, and_true] at h
    have : q = w := by omega
    subst this
    exact ⟨hq, fun m hm => hg m (by omega)⟩
  | j + 1, i, q, w, hq, hi, hr, hd, hf, h, hg => by
    obtain ⟨v, hv, hv2⟩ := inU_at hu i
    have hvf : fA ns i = v := by unfold fA; omega
    have hf1 := hf i (Nat.le_refl _) (by omega)
    rw [hvf] at hf1
    have hr1 := hr i (Nat.le_refl _) (by omega)
    obtain ⟨e1, e2, h1, h2⟩ := right_at hr1
    rw [pkF_fit az ss ns i j q v hq hr1 hv hf1] at h
    refine pkF_get az ss ns hu B j (i + 1) _ w (putN_lt _ _ _ _ hq hf1 h2) (by omega) (fun m g1 g2 => hr m (by omega) g2) (fun m m' g1 g2 g3 => hd m m' g1 (by omega) g3) (fun m g1 g2 => hf m (by omega) g2) h fun m hm => ?_
    by_cases e : m = i
    · subst e; rw [get_put _ _ _ _ hq hf1 h2, hvf]
    · rw [get_other _ _ _ _ _ _ hq hf1 h2 (hd m i (by omega) (Nat.le_refl _) (by omega))]
      exact hg m (by omega)
end Go.Proofs.YtnkpegdmbocgaaaDoor

namespace Go.Proofs.YtnkpegdmbocgaaaDoor
open Go Go.RowKit
set_option maxRecDepth 100000
abbrev fpV : List Nat := [0, 1, 5, 6, 7, 8, 10, 11, 12]
abbrev fpC : List Cut := [(0, fpV, [0, 1, 3, 5], 6), (1, fpV, [0, 1, 3, 5], 6), (2, fpV, [0, 1, 3, 5], 6), (3, fpV, [0, 1, 3, 5], 6)]
abbrev fpD : List Cut := [(0, fpV, [0, 1, 3], 4), (1, fpV, [0, 1, 3], 4), (2, fpV, [0, 1, 3], 4), (3, fpV, [0, 1, 3], 4)]
abbrev fpT (nn mm : Bool) (n k : Nat) (c d : Option Nat) (l x6 x7 x8 x10 x11 x12 : AV) : List AV := [.sl nn 0 2 0 1 n c, .sl mm 1 1 0 1 k d, .unk, .unk, .unk, l, x6, x7, x8, .unk, x10, x11, x12] ++ List.replicate 120 .unk
abbrev fpB (az ss ns : List Int) (r : List (Nat × Option ABlk)) (x : Nat) : MS := ⟨(0, some (frB az ss)) :: (1, some ⟨false, false, .col (.ints .u64 ns)⟩) :: r, x⟩
abbrev fpK (zs ts : List Int) : Option ABlk := some ⟨true, true, .rows [.ints .i64 zs, .ints .i64 ts]⟩
abbrev fpL (l n : Nat) : AV := .sl true l 2 0 1 n none
abbrev fpN : AV := .val (.slice none 0 0)
theorem fp_begin (nn mm : Bool) (az ss ns : List Int) (n k : Nat) (c d : Option Nat) : F_ Tryd.prog (L_w4 Tryd.prog Tryd.f10) Tryd.f6 fpC [] 99 [.sl nn 0 2 0 1 n c, .sl mm 1 1 0 1 k d] (fpB az ss ns [(2, some ⟨false, false, .obj (.glob 0 (.ints .u8 tzTab))⟩)] 3) =
    bif (bif decide (70 < (n : Int)) then true else decide (70 < (k : Int))) then some (.ret (vb true) ⟨[], 99⟩ true)
    else some (.head (hd Tryd.f6 0) (fpT nn mm n k c d fpN (vi 0) .unk .unk .unk .unk .unk) (fpB az ss ns [(3, none), (5, none)] 6) true) := by kernel_rfl
abbrev fpO (az ss : List Int) (n : Nat) (i : Int) : List Bool := [decide (0 ≤ i), decide (i.toNat < n), decide (smI i < az.length), decide (0 ≤ i), decide (i.toNat < n), decide (smI i < ss.length)]
abbrev fpQ (az ss ns : List Int) (n k : Nat) : List Bool := [Nat.ble n az.length, Nat.ble n ss.length, Nat.ble n 9223372036854775807, Nat.ble k ns.length, inU ns]
theorem fp_round0 (nn mm : Bool) (az ss ns : List Int) (n k : Nat) (c d : Option Nat) (i : Int) : H_ Tryd.prog (L_w4 Tryd.prog Tryd.f10) Tryd.f6 fpC [] 99 (hd Tryd.f6 0) (fpT nn mm n k c d fpN (vi i) .unk .unk .unk .unk .unk) (fpB az ss ns [] 4) =
    bif decide (i < (n : Int)) then some (.head (hd Tryd.f6 0) (fpT nn mm n k c d (fpL 5 1) (vi (IntKind.i64.wrap (i + 1))) .unk .unk .unk .unk .unk) (fpB az ss ns [(3, none), (5, fpK [az.getD (smI i) 0] [ss.getD (smI i) 0])] 6) (conj (fpO az ss n i)))
    else bif !(apF az ss 0 n 0 == true) then some (.ret (vb false) ⟨[], 99⟩ (conj (fpQ az ss ns n k ++ [Nat.ble n az.length, Nat.ble n ss.length, Nat.ble n 9223372036854775807])))
    else bif (n : Int) != (k : Int) then some (.ret (vb (bif (pkV az ss ns n k).1 == 0 then (pkV az ss ns n k).2 == 1 else false)) ⟨[], 99⟩ (conj (fpQ az ss ns n k ++ [Nat.ble n az.length, Nat.ble n ss.length, Nat.ble n 9223372036854775807])))
    else some (.head (hd Tryd.f6 1) (fpT nn mm n k c d fpN (vi i) (vu (pkV az ss ns n k).1) (vi (pkV az ss ns n k).2) (vu 0) (vi 0) .unk) (fpB az ss ns [(3, none), (5, none)] 6) (conj (fpQ az ss ns n k ++ [Nat.ble n az.length, Nat.ble n ss.length, Nat.ble n 9223372036854775807]))) := by kernel_rfl
abbrev fpQ1 (az ss ns zs ts : List Int) (n k p : Nat) : List Bool := fpQ az ss ns n k ++ [Nat.ble p zs.length, Nat.ble p ts.length, Nat.ble p 9223372036854775807, Nat.ble n az.length, Nat.ble n ss.length, Nat.ble n 9223372036854775807]
theorem fp_round1 (nn mm : Bool) (az ss ns zs ts : List Int) (n k p : Nat) (c d : Option Nat) (i : Int) : H_ Tryd.prog (L_w4 Tryd.prog Tryd.f10) Tryd.f6 fpC [] 99 (hd Tryd.f6 0) (fpT nn mm n k c d (fpL 3 p) (vi i) .unk .unk .unk .unk .unk) (fpB az ss ns [(3, fpK zs ts)] 4) =
    bif decide (i < (n : Int)) then some (.head (hd Tryd.f6 0) (fpT nn mm n k c d (fpL 5 (p + 1)) (vi (IntKind.i64.wrap (i + 1))) .unk .unk .unk .unk .unk) (fpB az ss ns [(3, none), (5, fpK (zs.take p ++ [az.getD (smI i) 0]) (ts.take p ++ [ss.getD (smI i) 0]))] 6)
      (conj (fpO az ss n i ++ [decide (0 < p), decide ((p + 1) * 16 ≤ 140737488355328), decide (p ≤ zs.length), decide (p ≤ ts.length)])))
    else bif !(apF az ss 0 n 0 == raF zs ts 0 p falses) then some (.ret (vb false) ⟨[], 99⟩ (conj (fpQ1 az ss ns zs ts n k p)))
    else bif (bif !raF zs ts 0 p falses then true else (n : Int) != (k : Int)) then some (.ret (vb (bif (pkV az ss ns n k).1 == 0 then (pkV az ss ns n k).2 == 1 else false)) ⟨[], 99⟩ (conj (fpQ1 az ss ns zs ts n k p)))
    else some (.head (hd Tryd.f6 1) (fpT nn mm n k c d (fpL 3 p) (vi i) (vu (pkV az ss ns n k).1) (vi (pkV az ss ns n k).2) (vu 0) (vi 0) .unk) (fpB az ss ns [(3, fpK zs ts), (5, none)] 6) (conj (fpQ1 az ss ns zs ts n k p))) := by kernel_rfl
abbrev fpP (ns ts : List Int) (k p : Nat) (i : Int) : List Bool := [decide (0 ≤ i), decide (i.toNat < k), decide (smI i < ns.length), decide (0 ≤ i), decide (i.toNat < p), decide (smI i < ts.length), decide (0 ≤ ns.getD (smI i) 0), decide (ns.getD (smI i) 0 ≤ 18446744073709551615), decide (0 ≤ ts.getD (smI i) 0)]
theorem fp_round2 (nn mm : Bool) (az ss ns zs ts : List Int) (n k p : Nat) (c d : Option Nat) (x6 : Int) (w e q i : Int) : H_ Tryd.prog (L_w4 Tryd.prog Tryd.f10) Tryd.f6 fpD [] 99 (hd Tryd.f6 1) (fpT nn mm n k c d (fpL 3 p) (vi x6) (vu w) (vi e) (vu q) (vi i) .unk) (fpB az ss ns [(3, fpK zs ts)] 4) =
    bif decide (i < (p : Int)) then bif !fitR (ns.getD (smI i) 0).toNat (ts.getD (smI i) 0).toNat then some (.ret (vb (bif w == 0 then e == 2 else false)) ⟨[], 99⟩ (conj (fpP ns ts k p i)))
      else some (.head (hd Tryd.f6 1) (fpT nn mm n k c d (fpL 3 p) (vi x6) (vu w) (vi e) (vu (putR q.toNat (zs.getD (smI i) 0).toNat (ts.getD (smI i) 0).toNat (ns.getD (smI i) 0).toNat)) (vi (IntKind.i64.wrap (i + 1))) .unk) (fpB az ss ns [(3, fpK zs ts)] 4)
        (conj (fpP ns ts k p i ++ [decide (0 ≤ i), decide (i.toNat < p), decide (smI i < zs.length), decide (0 ≤ i), decide (i.toNat < p), decide (smI i < ts.length), decide (0 ≤ i), decide (i.toNat < k), decide (smI i < ns.length), decide (0 ≤ q), decide (q ≤ 18446744073709551615), decide (0 ≤ ns.getD (smI i) 0), decide (ns.getD (smI i) 0 ≤ 18446744073709551615), decide (0 ≤ zs.getD (smI i) 0), decide (0 ≤ ts.getD (smI i) 0), decide (zs.getD (smI i) 0 + ts.getD (smI i) 0 ≤ 64)])))
    else some (.head (hd Tryd.f6 2) (fpT nn mm n k c d (fpL 3 p) (vi x6) (vu w) (vi e) (vu q) (vi i) (vi 0)) (fpB az ss ns [(3, fpK zs ts)] 4) true) := by kernel_rfl
theorem fp_round3 (nn mm : Bool) (az ss ns zs ts : List Int) (n k p : Nat) (c d : Option Nat) (x6 : Int) (w e q x11 i : Int) : H_ Tryd.prog (L_w4 Tryd.prog Tryd.f10) Tryd.f6 fpD [] 99 (hd Tryd.f6 2) (fpT nn mm n k c d (fpL 3 p) (vi x6) (vu w) (vi e) (vu q) (vi x11) (vi i)) (fpB az ss ns [(3, fpK zs ts)] 4) =
    bif decide (i < (p : Int)) then bif field_Get_0 w (az.getD (smI i) 0) (ss.getD (smI i) 0) != ns.getD (smI i) 0 then some (.ret (vb false) ⟨[], 99⟩ (conj [decide (0 ≤ i), decide (i.toNat < n), decide (smI i < az.length), decide (smI i < ss.length), c_field_Get w (az.getD (smI i) 0) (ss.getD (smI i) 0), decide (0 ≤ i), decide (i.toNat < k), decide (smI i < ns.length)]))
      else some (.head (hd Tryd.f6 2) (fpT nn mm n k c d (fpL 3 p) (vi x6) (vu w) (vi e) (vu q) (vi x11) (vi (IntKind.i64.wrap (i + 1)))) (fpB az ss ns [(3, fpK zs ts)] 4) (conj [decide (0 ≤ i), decide (i.toNat < n), decide (smI i < az.length), decide (smI i < ss.length), c_field_Get w (az.getD (smI i) 0) (ss.getD (smI i) 0), decide (0 ≤ i), decide (i.toNat < k), decide (smI i < ns.length)]))
    else some (.ret (vb (bif w == q then e == 0 else false)) ⟨[], 99⟩ true) := by kernel_rfl
-- no field
theorem fp_none2 (nn mm : Bool) (az ss ns : List Int) (n k : Nat) (c d : Option Nat) (x6 w e : Int) : H_ Tryd.prog (L_w4 Tryd.prog Tryd.f10) Tryd.f6 [] [] 99 (hd Tryd.f6 1) (fpT nn mm n k c d fpN (vi x6) (vu w) (vi e) (vu 0) (vi 0) .unk) (fpB az ss ns [] 4) =
    some (.ret (vb (bif w == 0 then e == 0 else false)) ⟨[], 99⟩ true) := by kernel_rfl
end Go.Proofs.YtnkpegdmbocgaaaDoor

namespace Go.Proofs.YtnkpegdmbocgaaaDoor
open Go Go.RowKit
set_option maxRecDepth 100000
theorem ble_of {a b : Nat} (h : a ≤ b) : Nat.ble a b = true := Nat.ble_eq_true_of_le h
theorem fpO_ok {az ss : List Int} {n i : Nat} (h : i < n) (h1 : n ≤ az.length) (h2 : n ≤ ss.length) (l : List Bool) : conj (fpO az ss n (i : Int) ++ l) = conj l := by
  simp only [fpO, List.cons_append, List.nil_append, conj, smI_eq, Int.toNat_natCast]
  rw [decide_eq_true (show (0 : Int) ≤ i by omega), decide_eq_true h, decide_eq_true (show i < az.length by omega), decide_eq_true (show i < ss.length by omega)]
  rfl
theorem takeSn (l : List Int) (i : Nat) (h : i < l.length) : (l.take i).take i ++ [l.getD i 0] = l.take (i + 1) := by
  rw [List.take_take, Nat.min_self, List.take_add_one, List.getD_eq_getElem?_getD, List.getElem?_eq_getElem h]
  rfl
section
variable (nn mm : Bool) (az ss ns : List Int) (n k : Nat) (c d : Option Nat) (h70 : n ≤ 70) (k70 : k ≤ 70) (h1 : n ≤ az.length) (h2 : n ≤ ss.length) (h3 : k ≤ ns.length) (hu : inU ns = true)
include h70 h1 h2
theorem fp_l1 : ∀ (j i : Nat), 1 ≤ i → i + j = n →
    Goes Tryd.prog 3 ⟨hd Tryd.f6 0, fpT nn mm n k c d (fpL 3 i) (vi i) .unk .unk .unk .unk .unk, fpB az ss ns [(3, fpK (az.take i) (ss.take i))] 4⟩
      ⟨hd Tryd.f6 0, fpT nn mm n k c d (fpL 3 n) (vi n) .unk .unk .unk .unk .unk, fpB az ss ns [(3, fpK (az.take n) (ss.take n))] 4⟩
  | 0, i, hi, hj => by
    obtain rfl : i = n := by omega
    exact Goes.refl
  | j + 1, i, hi, hj => by
    have h := fp_round1 nn mm az ss ns (az.take i) (ss.take i) n k i c d i
    have hw : IntKind.i64.wrap ((i : Int) + 1) = ((i + 1 : Nat) : Int) := by rw [IntWalk.i64_in _ (by omega)]; rfl
    have hc : conj [decide (0 < i), decide ((i + 1) * 16 ≤ 140737488355328), decide (i ≤ (az.take i).length), decide (i ≤ (ss.take i).length)] = true := by
      simp only [conj, Bool.and_eq_true, decide_eq_true_eq, List.length_take]
      exact ⟨by omega, by omega, by omega, by omega, trivial⟩
    rw [decide_eq_true (show (i : Int) < n by omega), cond_true, hw, fpO_ok (by omega) h1 h2, hc, smI_eq, takeSn az i (by omega), takeSn ss i (by omega)] at h
    have g := H_head (f := Tryd.f6) (B := 3) hE_w4 mixed rfl h
    have hr := Goes.ren (P := Tryd.prog) (B := 3) (σ := [(0, 0), (1, 1), (3, 5)]) (nx := 4) (s := ⟨hd Tryd.f6 0, fpT nn mm n k c d (fpL 5 (i + 1)) (vi ((i + 1 : Nat) : Int)) .unk .unk .unk .unk .unk, fpB az ss ns [(3, none), (5, fpK (az.take (i + 1)) (ss.take (i + 1)))] 6⟩) rfl
    exact Goes.trans g (Goes.trans hr (fp_l1 j (i + 1) (by omega) (by omega)))
include h3 hu
theorem fpQ_ok (l : List Bool) : conj (fpQ az ss ns n k ++ l) = conj l := by
  simp only [fpQ, List.cons_append, List.nil_append, conj]
  rw [ble_of h1, ble_of h2, ble_of (show n ≤ 9223372036854775807 by omega), ble_of h3, hu]
  rfl
omit h70 h1 in
theorem fpP_ok (i : Nat) (hi : i < n) (hk : n = k) (hs : 0 ≤ ss.getD i 0) (l : List Bool) : conj (fpP ns (ss.take n) k n (i : Int) ++ l) = conj l := by
  obtain ⟨v, hv, hv2⟩ := inU_at hu i
  simp only [fpP, List.cons_append, List.nil_append, conj, smI_eq, Int.toNat_natCast, getD_take ss hi, hv, List.length_take]
  rw [decide_eq_true (show (0 : Int) ≤ i by omega), decide_eq_true (show i < k by omega), decide_eq_true (show i < ns.length by omega), decide_eq_true hi, decide_eq_true (show i < min n ss.length by omega), decide_eq_true (show (0 : Int) ≤ v by omega), decide_eq_true (show (v : Int) ≤ 18446744073709551615 by omega), decide_eq_true hs]
  rfl
/-- The last loop: each number is read again. -/
theorem fp_l3 (x6 x11 : Int) (w : Nat) (hk : n = k) (hw : w < 2 ^ 64) (hG : Good az ss 0 0 n) (hget : ∀ m, m < n → getN w (fA az m) (fA ss m) = fA ns m) : ∀ (j i : Nat), i + j = n →
    Gives_ Tryd.prog Tryd.f6 3 ⟨hd Tryd.f6 2, fpT nn mm n k c d (fpL 3 n) (vi x6) (vu w) (vi 0) (vu w) (vi x11) (vi i), fpB az ss ns [(3, fpK (az.take n) (ss.take n))] 4⟩ (vb true) ⟨[], 99⟩
  | 0, i, hi => by
    have h := fp_round3 nn mm az ss ns (az.take n) (ss.take n) n k n c d x6 w 0 w x11 i
    rw [decide_eq_false (show ¬ (i : Int) < n by omega), cond_false, beq_self_eq_true, beq_self_eq_true] at h
    exact H_ret hE_w4 mixed rfl h
  | j + 1, i, hi => by
    have h := fp_round3 nn mm az ss ns (az.take n) (ss.take n) n k n c d x6 w 0 w x11 i
    have hwr : IntKind.i64.wrap ((i : Int) + 1) = ((i + 1 : Nat) : Int) := by rw [IntWalk.i64_in _ (by omega)]; rfl
    have hr := hG.right i (by omega) (by omega)
    obtain ⟨e1, e2, g1, g2⟩ := right_at hr
    obtain ⟨v, hv, hv2⟩ := inU_at hu i
    have hvf : fA ns i = v := by unfold fA; omega
    have hc : conj [decide (0 ≤ (i : Int)), decide ((i : Int).toNat < n), decide (i < az.length), decide (i < ss.length), true, decide (0 ≤ (i : Int)), decide ((i : Int).toNat < k), decide (i < ns.length)] = true := by
      simp only [conj, Bool.and_eq_true, decide_eq_true_eq]
      exact ⟨by omega, by omega, by omega, by omega, trivial, by omega, by omega, by omega, trivial⟩
    rw [decide_eq_true (show (i : Int) < n by omega), cond_true, hwr, smI_eq, cGetI, hc, e1, e2, get_eq w _ _ hw g1 g2, hget i (by omega), hvf, hv, bne_self_eq_false, cond_false] at h
    exact Goes.gives (H_head (f := Tryd.f6) (B := 3) hE_w4 mixed rfl h) (fp_l3 x6 x11 w hk hw hG hget j (i + 1) (by omega))
/-- The loop before: the word that the document wants. -/
theorem fp_l2 (x6 : Int) (W E : Int) (hk : n = k) (hG : Good az ss 0 0 n) : ∀ (j i q : Nat), i + j = n → q < 2 ^ 64 → pkF az ss ns i j q = (W, E) → pkF az ss ns 0 n 0 = (W, E) → (∀ m, m < i → fA ns m < 2 ^ fA ss m) →
    Gives_ Tryd.prog Tryd.f6 3 ⟨hd Tryd.f6 1, fpT nn mm n k c d (fpL 3 n) (vi x6) (vu W) (vi E) (vu q) (vi i) .unk, fpB az ss ns [(3, fpK (az.take n) (ss.take n))] 4⟩ (vb true) ⟨[], 99⟩
  | 0, i, q, hi, hq, hp, hp0, hf => by
    have h := fp_round2 nn mm az ss ns (az.take n) (ss.take n) n k n c d x6 W E q i
    rw [decide_eq_false (show ¬ (i : Int) < n by omega), cond_false] at h
    have g := H_head (f := Tryd.f6) (B := 3) hE_w4 mixed rfl h
    simp only [pkF, Prod.mk.injEq] at hp
    obtain ⟨rfl, rfl⟩ := hp
    have hget := pkF_get az ss ns hu n n 0 0 q (by decide) (by omega) (fun m g1 g2 => hG.right m g1 (by omega)) (fun m m' g1 g2 g3 => by
      apply dis_and
      rw [Nat.and_comm]
      exact hG.dis m m' (by omega) g1 (by omega)) (fun m g1 g2 => hf m (by omega)) hp0 (fun m g1 => by omega)
    exact Goes.gives g (fp_l3 nn mm az ss ns n k c d h70 h1 h2 h3 hu x6 i q hk hq hG hget.2 n 0 (by omega))
  | j + 1, i, q, hi, hq, hp, hp0, hf => by
    have h := fp_round2 nn mm az ss ns (az.take n) (ss.take n) n k n c d x6 W E q i
    have hwr : IntKind.i64.wrap ((i : Int) + 1) = ((i + 1 : Nat) : Int) := by rw [IntWalk.i64_in _ (by omega)]; rfl
    have hr := hG.right i (by omega) (by omega)
    obtain ⟨e1, e2, g1, g2⟩ := right_at hr
    obtain ⟨v, hv, hv2⟩ := inU_at hu i
    have hvf : fA ns i = v := by unfold fA; omega
    have hs0 : 0 ≤ ss.getD i 0 := by omega
    have hP := fun l => fpP_ok ss ns n k h2 h3 hu i (by omega) hk hs0 l
    have hP0 := hP []
    rw [List.append_nil] at hP0
    have hc : conj [decide (0 ≤ (i : Int)), decide ((i : Int).toNat < n), decide (i < (az.take n).length), decide (0 ≤ (i : Int)), decide ((i : Int).toNat < n), decide (i < (ss.take n).length), decide (0 ≤ (i : Int)), decide ((i : Int).toNat < k), decide (i < ns.length), decide (0 ≤ (q : Int)), decide ((q : Int) ≤ 18446744073709551615), decide (0 ≤ (v : Int)), decide ((v : Int) ≤ 18446744073709551615), decide (0 ≤ (fA az i : Int)), decide (0 ≤ (fA ss i : Int)), decide ((fA az i : Int) + (fA ss i : Int) ≤ 64)] = true := by
      simp only [conj, Bool.and_eq_true, decide_eq_true_eq, List.length_take]
      exact ⟨by omega, by omega, by omega, by omega, by omega, by omega, by omega, by omega, by omega, by omega, by omega, by omega, by omega, by omega, by omega, by omega, trivial⟩
    rw [decide_eq_true (show (i : Int) < n by omega), cond_true, hwr, hP, hP0, smI_eq, getD_take az (show i < n by omega), getD_take ss (show i < n by omega), e1, e2, hv, hc, Int.toNat_natCast, Int.toNat_natCast, Int.toNat_natCast, Int.toNat_natCast, fitR_eq v _ hv2] at h
    by_cases hfit : v < 2 ^ fA ss i
    · rw [decide_eq_true hfit, putR_eq _ _ _ _ hq hfit g2] at h
      rw [pkF_fit az ss ns i j q v hq hr hv hfit] at hp
      refine Goes.gives (H_head (f := Tryd.f6) (B := 3) hE_w4 mixed rfl h) (fp_l2 x6 W E hk hG j (i + 1) _ (by omega) (putN_lt _ _ _ _ hq hfit g2) hp hp0 fun m hm => ?_)
      by_cases e : m = i
      · subst e; rw [hvf]; exact hfit
      · exact hf m (by omega)
    · rw [pkF_not az ss ns i j q v hr hv hv2 hfit] at hp
      simp only [Prod.mk.injEq] at hp
      obtain ⟨rfl, rfl⟩ := hp
      rw [decide_eq_false hfit] at h
      exact H_ret hE_w4 mixed rfl h
include k70
theorem fpk_gives : Gives_ Tryd.prog Tryd.f6 3 (enterA Tryd.f6 (bodyOf Tryd.f6) [.sl nn 0 2 0 1 n c, .sl mm 1 1 0 1 k d] (fpB az ss ns [(2, some ⟨false, false, .obj (.glob 0 (.ints .u8 tzTab))⟩)] 3)) (vb true) ⟨[], 99⟩ := by
  have hb := fp_begin nn mm az ss ns n k c d
  rw [decide_eq_false (show ¬ (70 : Int) < n by omega), decide_eq_false (show ¬ (70 : Int) < k by omega)] at hb
  have g0 := F_head (f := Tryd.f6) (c := bodyOf Tryd.f6) hE_w4 mixed rfl rfl hb
  have r0 := Goes.ren (P := Tryd.prog) (B := 3) (σ := [(0, 0), (1, 1)]) (nx := 4) (s := ⟨hd Tryd.f6 0, fpT nn mm n k c d fpN (vi 0) .unk .unk .unk .unk .unk, fpB az ss ns [(3, none), (5, none)] 6⟩) rfl
  refine Goes.gives (Goes.trans g0 r0) ?_
  change Gives_ Tryd.prog Tryd.f6 3 ⟨hd Tryd.f6 0, fpT nn mm n k c d fpN (vi 0) .unk .unk .unk .unk .unk, fpB az ss ns [] 4⟩ (vb true) ⟨[], 99⟩
  have hra := raF_eq az ss n n 0 0 falses (by omega) (by decide) rfl (fun m => by rw [Nat.zero_testBit, falses_at])
  have hfin : ∀ (x : Bool), (bif (bif !x then true else (n : Int) != (k : Int)) then True else x = true ∧ n = k) := fun x => by
    cases x with
    | false => trivial
    | true =>
      cases e : ((n : Int) != (k : Int)) with
      | true => simp [e]
      | false =>
        have e2 : (n : Int) = k := by simpa using e
        simp [e]; omega
  have hconst : (bif !apF az ss 0 n 0 then true else (n : Int) != (k : Int)) = true → pkV az ss ns n k = (0, 1) := fun e => by unfold pkV; rw [e]; rfl
  have hrun : (bif !apF az ss 0 n 0 then true else (n : Int) != (k : Int)) = false → pkV az ss ns n k = pkF az ss ns 0 n 0 := fun e => by unfold pkV; rw [e]; rfl
  by_cases hn : n = 0
  · subst hn
    have h := fp_round0 nn mm az ss ns 0 k c d 0
    have ha : apF az ss 0 0 0 = true := rfl
    have hq : conj (fpQ az ss ns 0 k ++ [Nat.ble 0 az.length, Nat.ble 0 ss.length, Nat.ble 0 9223372036854775807]) = true := by rw [fpQ_ok az ss ns 0 k h70 h1 h2 h3 hu, ble_of h1, ble_of h2]; rfl
    rw [ha, hq] at h
    cases e : (((0 : Nat) : Int) != (k : Int)) with
    | true =>
      rw [e, hconst (by rw [ha, e]; rfl)] at h
      exact H_ret hE_w4 mixed rfl h
    | false =>
      rw [e, hrun (by rw [ha, e]; rfl)] at h
      have g := H_head (f := Tryd.f6) (B := 3) hE_w4 mixed rfl h
      have r := Goes.ren (P := Tryd.prog) (B := 3) (σ := [(0, 0), (1, 1)]) (nx := 4) (s := ⟨hd Tryd.f6 1, fpT nn mm 0 k c d fpN (vi 0) (vu 0) (vi 0) (vu 0) (vi 0) .unk, fpB az ss ns [(3, none), (5, none)] 6⟩) rfl
      exact Goes.gives (Goes.trans g r) (H_ret hE_w4 mixed rfl (fp_none2 nn mm az ss ns 0 k c d 0 0 0))
  · have h := fp_round0 nn mm az ss ns n k c d 0
    have hO := fpO_ok (show 0 < n by omega) h1 h2 []
    rw [List.append_nil] at hO
    have hw : IntKind.i64.wrap ((0 : Int) + 1) = ((1 : Nat) : Int) := by decide
    rw [decide_eq_true (show (0 : Int) < n by omega), cond_true, hw] at h
    have hO : conj (fpO az ss n 0) = true := hO
    have ht : ∀ l : List Int, 1 ≤ l.length → [l.getD (smI 0) 0] = l.take 1 := fun l hl => by cases l with
      | nil => simp at hl
      | cons x r => rfl
    rw [hO, ht az (by omega), ht ss (by omega)] at h
    have g := H_head (f := Tryd.f6) (B := 3) hE_w4 mixed rfl h
    have r := Goes.ren (P := Tryd.prog) (B := 3) (σ := [(0, 0), (1, 1), (3, 5)]) (nx := 4) (s := ⟨hd Tryd.f6 0, fpT nn mm n k c d (fpL 5 1) (vi ((1 : Nat) : Int)) .unk .unk .unk .unk .unk, fpB az ss ns [(3, none), (5, fpK (az.take 1) (ss.take 1))] 6⟩) rfl
    have L1 := fp_l1 nn mm az ss ns n k c d h70 h1 h2 (n - 1) 1 (by omega) (by omega)
    refine Goes.gives (Goes.trans (Goes.trans g r) L1) ?_
    have hx := fp_round1 nn mm az ss ns (az.take n) (ss.take n) n k n c d n
    have hq : conj (fpQ1 az ss ns (az.take n) (ss.take n) n k n) = true := by
      show conj (fpQ az ss ns n k ++ _) = true
      rw [fpQ_ok az ss ns n k h70 h1 h2 h3 hu]
      simp only [conj, List.length_take]
      rw [ble_of (show n ≤ min n az.length by omega), ble_of (show n ≤ min n ss.length by omega), ble_of h1, ble_of h2, ble_of (show n ≤ 9223372036854775807 by omega)]
      rfl
    rw [decide_eq_false (show ¬ (n : Int) < n by omega), cond_false, hra, hq] at hx
    rw [show (apF az ss 0 n 0 == apF az ss 0 n ((0 : Nat) : Int)) = true from beq_self_eq_true _] at hx
    cases e : (bif !apF az ss 0 n ((0 : Nat) : Int) then true else (n : Int) != (k : Int)) with
    | true =>
      rw [e, hconst e] at hx
      exact H_ret hE_w4 mixed rfl hx
    | false =>
      rw [e, hrun e] at hx
      have hap : apF az ss 0 n ((0 : Nat) : Int) = true ∧ n = k := by
        have := hfin (apF az ss 0 n ((0 : Nat) : Int))
        rw [e] at this
        exact this
      have G := apF_good az ss n 0 0 (by decide) hap.1
      have g2 := H_head (f := Tryd.f6) (B := 3) hE_w4 mixed rfl hx
      have r2 := Goes.ren (P := Tryd.prog) (B := 3) (σ := [(0, 0), (1, 1), (3, 3)]) (nx := 4) (s := ⟨hd Tryd.f6 1, fpT nn mm n k c d (fpL 3 n) (vi n) (vu (pkF az ss ns 0 n 0).1) (vi (pkF az ss ns 0 n 0).2) (vu 0) (vi 0) .unk, fpB az ss ns [(3, fpK (az.take n) (ss.take n)), (5, none)] 6⟩) rfl
      exact Goes.gives (Goes.trans g2 r2) (fp_l2 nn mm az ss ns n k c d h70 h1 h2 h3 hu n _ _ hap.2 G n 0 0 (by omega) (by decide) rfl rfl (fun m hm => by omega))
end
end Go.Proofs.YtnkpegdmbocgaaaDoor

namespace Go.Proofs.YtnkpegdmbocgaaaDoor
open Go Go.ChangeShapes Go.WideShapes Go.ChangeAt Go.RowKit Go.Deep
/-- The kind of a column. -/
inductive CK where
  | i (k : IntKind)
  | b
def CK.under : CK → TypeDesc → Bool
  | .i k, .int k' => decide (k = k')
  | .b, .bool => true
  | _, _ => false
def CK.val : CK → Value → Prop
  | .i k, v => ∃ z, v = .int k z ∧ (Lit.int k z).wf = true
  | .b, v => ∃ z, v = .bool z
def CK.fits : CK → Nat → Col → Prop
  | .i k, n, cl => ∃ zs, cl = .ints k zs ∧ zs.length = n ∧ ∀ j, j < n → (Lit.int k (zs.getD j 0)).wf = true
  | .b, n, cl => ∃ zs, cl = .bools zs ∧ zs.length = n
def Fits (n : Nat) : List CK → List Col → Prop
  | [], cs => cs = []
  | k :: ks, cs => ∃ cl r, cs = cl :: r ∧ k.fits n cl ∧ Fits n ks r
theorem col_of (k : CK) (n : Nat) (cell : Nat → Option Value) (h : ∀ j, j < n → ∃ v, cell j = some v ∧ k.val v) : ∃ cl : Col, k.fits n cl ∧ (n = 0 → ∀ r, (cl.at r).2 = false) ∧ ∀ r v, cl.at r = (.val v, true) → cell r = some v := by
  cases k with
  | i k =>
    obtain ⟨zs, hl, hz⟩ := lists_of (0 : Int) (p := fun j z => cell j = some (.int k z) ∧ (Lit.int k z).wf = true) n fun j hj => by
      obtain ⟨v, h1, z, rfl, h2⟩ := h j hj
      exact ⟨z, h1, h2⟩
    refine ⟨.ints k zs, ⟨zs, rfl, hl, fun j hj => (hz j hj).2⟩, fun h0 r => by simp [Col.at]; omega, fun r v hv => ?_⟩
    simp only [Col.at, Prod.mk.injEq, AV.val.injEq, decide_eq_true_eq] at hv
    obtain ⟨rfl, hr⟩ := hv
    exact (hz r (by omega)).1
  | b =>
    obtain ⟨zs, hl, hz⟩ := lists_of false (p := fun j z => cell j = some (.bool z)) n fun j hj => by
      obtain ⟨v, h1, z, rfl⟩ := h j hj
      exact ⟨z, h1⟩
    refine ⟨.bools zs, ⟨zs, rfl, hl⟩, fun h0 r => by simp [Col.at]; omega, fun r v hv => ?_⟩
    simp only [Col.at, Prod.mk.injEq, AV.val.injEq, decide_eq_true_eq] at hv
    obtain ⟨rfl, hr⟩ := hv
    exact hz r (by omega)
theorem cols_of (n : Nat) : ∀ (ks : List CK) (cell : Nat → Nat → Option Value), (∀ c k, ks[c]? = some k → ∀ j, j < n → ∃ v, cell j c = some v ∧ k.val v) →
    ∃ cs : List Col, cs.length = ks.length ∧ Fits n ks cs ∧ (n = 0 → ∀ (c : Nat) (cl : Col) (r : Nat), cs[c]? = some cl → (cl.at r).2 = false) ∧ ∀ (c : Nat) (cl : Col) (r : Nat) (v : Value), cs[c]? = some cl → cl.at r = (.val v, true) → cell r c = some v
  | [], _, _ => ⟨[], rfl, rfl, fun _ c cl r h => by simp at h, fun c cl r v h => by simp at h⟩
  | k :: ks, cell, h => by
    obtain ⟨cl, h1, h2, h3⟩ := col_of k n (fun j => cell j 0) (fun j hj => h 0 k rfl j hj)
    obtain ⟨cs, g1, g2, g3, g4⟩ := cols_of n ks (fun j c => cell j (c + 1)) (fun c k hk j hj => h (c + 1) k (by simpa using hk) j hj)
    refine ⟨cl :: cs, by simp [g1], ⟨cl, cs, rfl, h1, g2⟩, fun h0 c d r hc => ?_, fun c d r v hc hv => ?_⟩
    · cases c with
      | zero => simp at hc; subst hc; exact h2 h0 r
      | succ c => exact g3 h0 c d r (by simpa using hc)
    · cases c with
      | zero => simp at hc; subst hc; exact h3 r v hv
      | succ c => exact g4 c d r v (by simpa using hc) hv
def fieldsAre (P : Program) : List Field → List CK → Bool
  | [], [] => true
  | f :: fs, k :: ks => (match P.underlying f.type with
    | some u => k.under u
    | none => false) && fieldsAre P fs ks
  | _, _ => false
theorem fields_at {P : Program} : ∀ {fs : List Field} {ks : List CK}, fieldsAre P fs ks = true → fs.length = ks.length ∧ ∀ (c : Nat) k, ks[c]? = some k → ∃ f u, fs[c]? = some f ∧ P.underlying f.type = some u ∧ k.under u = true
  | [], [], _ => ⟨rfl, fun c k h => by simp at h⟩
  | [], _ :: _, h => by simp [fieldsAre] at h
  | _ :: _, [], h => by simp [fieldsAre] at h
  | f :: fs, k :: ks, h => by
    simp only [fieldsAre, Bool.and_eq_true] at h
    obtain ⟨h1, h2⟩ := h
    obtain ⟨g1, g2⟩ := fields_at h2
    refine ⟨by simp [g1], fun c k' hk => ?_⟩
    cases c with
    | zero =>
      simp at hk
      subst hk
      cases hu : P.underlying f.type with
      | none => rw [hu] at h1; cases h1
      | some u => rw [hu] at h1; exact ⟨f, u, rfl, hu, h1⟩
    | succ c =>
      obtain ⟨f', u, hf, hu, hk'⟩ := g2 c k' (by simpa using hk)
      exact ⟨f', u, by simpa using hf, hu, hk'⟩
set_option maxRecDepth 100000 in
/-- A slice of flat structs came in. -/
theorem open_rows {H : Type} {enc : TypeId × Value → H} {w : World} {base : Nat} {held : Bool} {r : Reach} {b0 : Nat} {v : Value} {d : DataW H} {ps : List MemPlace} {t e : TypeId} {fs : Array Field} (ks : List CK)
    (ht : Tryd.prog.underlying t = some (.slice e)) (he : Tryd.prog.underlying e = some (.struct fs)) (hone : oneCellFields Tryd.prog fs = true) (hC : Tryd.prog.cellsOf e = fs.size) (hpos : 0 < fs.size) (hks : fieldsAre Tryd.prog fs.toList ks = true)
    (hval : Value.okWide Tryd.prog w r b0 t v) (h : DataW.Trod enc Tryd.prog w base (fun _ => true) held t v d ps) :
    ∃ (A : Option Addr) (n c : Nat) (cs : List Col) (i : LI), v = .slice A n c ∧ n ≤ c ∧ c ≤ 9223372036854775807 ∧ Fits n ks cs ∧ InB w A n (.rows cs) i := by
  obtain ⟨A, n, c, rfl, h1, h2, h3⟩ := open_structs ht he hone hC hpos hval h
  obtain ⟨hl, hat⟩ := fields_at hks
  have hsz : fs.size = ks.length := by simpa using hl
  have hrow : ∀ (b o : Nat), (∀ i, i < n → ∀ (j : Nat) (f : Field), fs[j]? = some f → ∃ u, w.cell? ⟨b, o + (i * fs.size + j), none⟩ = some u ∧ ∃ m y, DataW.trod enc Tryd.prog w base (fun _ => true) held m f.type [u] = some y) →
      ∀ c k, ks[c]? = some k → ∀ j, j < n → ∃ v, w.cell? ⟨b, o + (j * ks.length + c), none⟩ = some v ∧ k.val v := fun b o hi c k hk j hj => by
    obtain ⟨f, u, hf, hu, hku⟩ := hat c k hk
    obtain ⟨x, hx, hx2⟩ := hi j hj c f (by simpa using hf)
    rw [hsz] at hx
    refine ⟨x, hx, ?_⟩
    cases k with
    | i k =>
      cases u <;> simp only [CK.under] at hku <;> try cases hku
      rename_i k'
      have := of_decide_eq_true hku
      subst this
      exact field_int hu hx2
    | b =>
      cases u <;> simp only [CK.under] at hku <;> try cases hku
      exact field_bool hu hx2
  have hc : c ≤ 9223372036854775807 := by unfold maxLen at h2; omega
  by_cases hn : 0 < n
  · obtain ⟨b, o, e, hb, hi⟩ := h3 hn
    obtain ⟨cs, g1, g2, g3, g4⟩ := cols_of n ks (fun j c => w.cell? ⟨b, o + (j * ks.length + c), none⟩) (hrow b o hi)
    obtain ⟨i, hin⟩ := in_rows (w := w) (A := A) (n := n) (cs := cs) (fun h => by omega) (fun _ => ⟨b, o, e, hb, fun c cl r v hc hv => by
      have := g4 c cl r v hc hv
      rw [← g1] at this
      exact this⟩)
    exact ⟨A, n, c, cs, i, rfl, h1, hc, g2, hin⟩
  · have h0 : n = 0 := by omega
    obtain ⟨cs, g1, g2, g3, _⟩ := cols_of n ks (fun _ _ => none) (fun c k _ j hj => by omega)
    obtain ⟨i, hin⟩ := in_rows (w := w) (A := A) (n := n) (cs := cs) (fun h => g3 h) (fun h => absurd h hn)
    exact ⟨A, n, c, cs, i, rfl, h1, hc, g2, hin⟩
end Go.Proofs.YtnkpegdmbocgaaaDoor
