/-
  Sizes by classes: the plain laws.
-/
import Derived.Laws.Bits64
import Derived.Test.YtnkpegdmbocgaaaSG
namespace Go.Proofs.Ytnkpegdmbocgaaa
open Go Go.RowKit
theorem decL_more : ∀ (f a : Nat) (acc : List Int), 0 < f → a < 10 ^ f → decL (f + 1) a acc = decL f a acc := by
  intro f
  induction f with
  | zero => intro a acc h; omega
  | succ f ih =>
    intro a acc _ ha
    by_cases h9 : a < 10
    · have e : Nat.blt a 10 = true := by simp [Nat.blt_eq]; omega
      conv => lhs; unfold decL
      conv => rhs; unfold decL
      rw [e]; rfl
    · have e : Nat.blt a 10 = false := by cases hb : Nat.blt a 10 with | false => rfl | true => simp [Nat.blt_eq] at hb; omega
      have hp : 10 ^ (f + 1) = 10 ^ f * 10 := Nat.pow_succ ..
      have hf : 0 < f := by
        cases f with
        | zero => simp at ha; omega
        | succ f => omega
      conv => lhs; unfold decL
      conv => rhs; unfold decL
      rw [e]
      simp only [cond_false]
      exact ih (a / 10) _ hf (by omega)
theorem text03 (n : Int) (h : -9223372036854775808 ≤ n) (h' : n ≤ 9223372036854775807) : haymowref03_Text_0 n = decText n ∧ c_haymowref03_Text n = true := by
  have hlen : ∀ f a : Nat, f ≤ 20 → Nat.ble (1 + lenB (strOf (decL f a []))) 9223372036854775807 = true := fun f a hf => by
    have := decL_len f a []
    rw [lenB_eq, strOf_size]
    simp at this
    exact Nat.ble_eq_true_of_le (by omega)
  unfold haymowref03_Text_0 c_haymowref03_Text decText wholeT
  by_cases c : n < 0
  · rw [decide_eq_true c, IntKind.wrap_u64 n, IntKind.wrap_u64 (0 - n % 18446744073709551616)]
    have e : ((0 - n % 18446744073709551616) % 18446744073709551616).toNat = n.natAbs := by omega
    rw [e, decL_more 19 n.natAbs [] (by omega) (by omega), decide_eq_true (show 0 ≤ (0 - n % 18446744073709551616) % 18446744073709551616 by omega), decide_eq_true (show (0 - n % 18446744073709551616) % 18446744073709551616 ≤ 18446744073709551615 by omega), hlen 19 n.natAbs (by omega), catB_eq]
    exact ⟨rfl, rfl⟩
  · rw [decide_eq_false c, IntKind.wrap_u64 n]
    have e : (n % 18446744073709551616).toNat = n.natAbs := by omega
    rw [e, decL_more 19 n.natAbs [] (by omega) (by omega), decide_eq_true (show 0 ≤ n % 18446744073709551616 by omega), decide_eq_true (show n % 18446744073709551616 ≤ 18446744073709551615 by omega)]
    exact ⟨rfl, rfl⟩
def namesOk (c : Int) : Bool := (class_Bounds_0 c == haymowref04_Bounds_0 c) && ((class_Bounds_1 c == haymowref04_Bounds_1 c) && ((class_Bounds_2 c == haymowref04_Bounds_2 c) && (((class_Name_0 c).toList == (haymowref04_Name_0 c).toList) && (c_class_Bounds c && (c_haymowref04_Bounds c && (c_class_Name c && c_haymowref04_Name c))))))
theorem names_in : ∀ k : Nat, k ≤ 13 → namesOk (k : Int) = true
  | 0, _ => by kernel_rfl
  | 1, _ => by kernel_rfl
  | 2, _ => by kernel_rfl
  | 3, _ => by kernel_rfl
  | 4, _ => by kernel_rfl
  | 5, _ => by kernel_rfl
  | 6, _ => by kernel_rfl
  | 7, _ => by kernel_rfl
  | 8, _ => by kernel_rfl
  | 9, _ => by kernel_rfl
  | 10, _ => by kernel_rfl
  | 11, _ => by kernel_rfl
  | 12, _ => by kernel_rfl
  | 13, _ => by kernel_rfl
  | n + 14, h => by omega
theorem names_out (c : Int) (h : c < 0 ∨ 13 < c) : namesOk c = true := by
  have e : (bif decide (c < 0) then true else decide (13 < c)) = true := by
    rcases h with h | h
    · rw [decide_eq_true h]; rfl
    · rw [decide_eq_true h]; cases decide (c < 0) <;> rfl
  unfold namesOk class_Name_0 haymowref04_Name_0 c_class_Name c_haymowref04_Name class_Bounds_0 class_Bounds_1 class_Bounds_2 haymowref04_Bounds_0 haymowref04_Bounds_1 haymowref04_Bounds_2 c_class_Bounds c_haymowref04_Bounds
  rw [e]
  simp
theorem names_all (c : Int) : namesOk c = true := by
  by_cases h : c < 0 ∨ 13 < c
  · exact names_out c h
  · obtain ⟨k, rfl⟩ := Int.eq_ofNat_of_zero_le (show 0 ≤ c by omega)
    exact names_in k (by omega)
theorem classsizes_true (w c : Int) (h : -9223372036854775808 ≤ w) (h' : w ≤ 9223372036854775807) : haymowlaw04_ClassSizes_0 w c = true ∧ c_haymowlaw04_ClassSizes w c = true := by
  have hn := names_all c
  unfold namesOk at hn
  simp only [Bool.and_eq_true] at hn
  obtain ⟨n1, n2, n3, n4, n5, n6, n7, n8⟩ := hn
  obtain ⟨k1, k2⟩ := class_of w h h'
  unfold haymowlaw04_ClassSizes_0 c_haymowlaw04_ClassSizes
  rw [n1, n2, n3, n4, n5, n6, n7, n8, k1, k2]
  simp
theorem of_reg (a : Int) (h : 1 ≤ a) (h' : a ≤ 8192) : ∃ j : Nat, j ≤ 13 ∧ haymowref04_Of_0 a = j ∧ a ≤ 2 ^ j ∧ (j = 0 ∨ 2 ^ (j - 1) < a) := by
  unfold haymowref04_Of_0
  by_cases h0 : 1 < a
  · rw [decide_eq_true h0]
    simp only [cond_true]
    by_cases h1 : 2 < a
    · rw [decide_eq_true h1]
      simp only [cond_true]
      by_cases h2 : 4 < a
      · rw [decide_eq_true h2]
        simp only [cond_true]
        by_cases h3 : 8 < a
        · rw [decide_eq_true h3]
          simp only [cond_true]
          by_cases h4 : 16 < a
          · rw [decide_eq_true h4]
            simp only [cond_true]
            by_cases h5 : 32 < a
            · rw [decide_eq_true h5]
              simp only [cond_true]
              by_cases h6 : 64 < a
              · rw [decide_eq_true h6]
                simp only [cond_true]
                by_cases h7 : 128 < a
                · rw [decide_eq_true h7]
                  simp only [cond_true]
                  by_cases h8 : 256 < a
                  · rw [decide_eq_true h8]
                    simp only [cond_true]
                    by_cases h9 : 512 < a
                    · rw [decide_eq_true h9]
                      simp only [cond_true]
                      by_cases h10 : 1024 < a
                      · rw [decide_eq_true h10]
                        simp only [cond_true]
                        by_cases h11 : 2048 < a
                        · rw [decide_eq_true h11]
                          simp only [cond_true]
                          by_cases h12 : 4096 < a
                          · rw [decide_eq_true h12]
                            simp only [cond_true]
                            exact ⟨13, by omega, rfl, by omega, .inr (by omega)⟩
                          · rw [decide_eq_false h12]
                            exact ⟨12, by omega, rfl, by omega, .inr (by omega)⟩
                        · rw [decide_eq_false h11]
                          exact ⟨11, by omega, rfl, by omega, .inr (by omega)⟩
                      · rw [decide_eq_false h10]
                        exact ⟨10, by omega, rfl, by omega, .inr (by omega)⟩
                    · rw [decide_eq_false h9]
                      exact ⟨9, by omega, rfl, by omega, .inr (by omega)⟩
                  · rw [decide_eq_false h8]
                    exact ⟨8, by omega, rfl, by omega, .inr (by omega)⟩
                · rw [decide_eq_false h7]
                  exact ⟨7, by omega, rfl, by omega, .inr (by omega)⟩
              · rw [decide_eq_false h6]
                exact ⟨6, by omega, rfl, by omega, .inr (by omega)⟩
            · rw [decide_eq_false h5]
              exact ⟨5, by omega, rfl, by omega, .inr (by omega)⟩
          · rw [decide_eq_false h4]
            exact ⟨4, by omega, rfl, by omega, .inr (by omega)⟩
        · rw [decide_eq_false h3]
          exact ⟨3, by omega, rfl, by omega, .inr (by omega)⟩
      · rw [decide_eq_false h2]
        exact ⟨2, by omega, rfl, by omega, .inr (by omega)⟩
    · rw [decide_eq_false h1]
      exact ⟨1, by omega, rfl, by omega, .inr (by omega)⟩
  · rw [decide_eq_false h0]
    exact ⟨0, by omega, rfl, by omega, .inl rfl⟩
theorem pow_in (j k : Nat) (h : j ≤ k) : (2 : Int) ^ j ≤ 2 ^ k := by
  have := Nat.pow_le_pow_right (show 0 < 2 by omega) h
  exact_mod_cast this
theorem pow_bd (j : Nat) (h : j ≤ 13) : (1 : Int) ≤ 2 ^ j ∧ (2 : Int) ^ j ≤ 8192 := by
  have a := pow_in 0 j (by omega)
  have b := pow_in j 13 h
  exact ⟨by simpa using a, by simpa using b⟩
theorem bounds_at (k : Nat) (h : k ≤ 13) : class_Bounds_2 k = true ∧ c_class_Bounds k = true ∧ class_Bounds_1 k = 2 ^ k ∧ class_Bounds_0 k = (bif Nat.beq k 0 then 1 else 2 ^ (k - 1) + 1) := by
  have hn := names_in k h
  unfold namesOk at hn
  simp only [Bool.and_eq_true, beq_iff_eq] at hn
  obtain ⟨n1, n2, n3, n4, n5, n6, n7, n8⟩ := hn
  rw [n1, n2, n3]
  unfold haymowref04_Bounds_0 haymowref04_Bounds_1 haymowref04_Bounds_2 topOf
  rw [decide_eq_false (show ¬ (k : Int) < 0 by omega), decide_eq_false (show ¬ (13 : Int) < k by omega)]
  simp only [cond_false, Int.toNat_natCast]
  refine ⟨trivial, n5, ?_, ?_⟩
  · by_cases h0 : k = 0
    · subst h0; rfl
    · rw [show ((k : Int) == 0) = false by simp; omega]; rfl
  · by_cases h0 : k = 0
    · subst h0; rfl
    · rw [show ((k : Int) == 0) = false by simp; omega, nbeq_ne h0, wr ((k : Int) - 1) (by omega) (by omega), show ((k : Int) - 1).toNat = k - 1 by omega]
      have := pow_bd (k - 1) (by omega)
      simp only [cond_false]
      rw [wr _ (by omega) (by omega)]
theorem holds_at (k : Nat) (h : k ≤ 13) (a : Int) (h1 : 1 ≤ a) (h2 : a ≤ 8192) : (bif decide (class_Bounds_0 k ≤ a) then decide (a ≤ class_Bounds_1 k) else false) = (class_Of_0 a == (k : Int)) := by
  obtain ⟨_, _, b1, b0⟩ := bounds_at k h
  obtain ⟨j, hj, e, r1, r2⟩ := of_reg a h1 h2
  rw [(class_of a (by omega) (by omega)).1, e, b0, b1]
  by_cases c : k = j
  · subst c
    rw [beq_self_eq_true, decide_eq_true r1]
    by_cases h0 : k = 0
    · subst h0; rw [decide_eq_true (show (bif Nat.beq 0 0 then (1 : Int) else 2 ^ (0 - 1) + 1) ≤ a by simpa using h1)]; rfl
    · rw [nbeq_ne h0]
      have := r2.resolve_left h0
      simp only [cond_false]
      rw [decide_eq_true (show (2 : Int) ^ (k - 1) + 1 ≤ a by omega)]; rfl
  · rw [show (((j : Nat) : Int) == (k : Int)) = false by simp; omega]
    by_cases hlt : k < j
    · have := r2.resolve_left (by omega)
      have := pow_in k (j - 1) (by omega)
      rw [decide_eq_false (show ¬ a ≤ (2 : Int) ^ k by omega)]
      cases decide ((bif Nat.beq k 0 then (1 : Int) else 2 ^ (k - 1) + 1) ≤ a) <;> rfl
    · have := pow_in j (k - 1) (by omega)
      rw [nbeq_ne (show ¬ k = 0 by omega)]
      simp only [cond_false]
      rw [decide_eq_false (show ¬ (2 : Int) ^ (k - 1) + 1 ≤ a by omega)]; rfl
theorem of_mono (a b : Int) (h : 1 ≤ a) (h' : a ≤ b) (h'' : b ≤ 8192) : class_Of_0 a ≤ class_Of_0 b := by
  obtain ⟨i, hi, e, r1, r2⟩ := of_reg a h (by omega)
  obtain ⟨j, hj, f, s1, s2⟩ := of_reg b (by omega) h''
  rw [(class_of a (by omega) (by omega)).1, (class_of b (by omega) (by omega)).1, e, f]
  by_cases c : i ≤ j
  · omega
  · have := pow_in j (i - 1) (by omega)
    have := r2.resolve_left (by omega)
    omega
-- the law's own loop
def chC : List Cut := [(2, [5, 6, 7], [], 0)]
def chTm (a b k : Int) : List AV := [.unk, .unk, .unk, .unk, .unk, vi a, vi b, vi k] ++ List.replicate 62 .unk
theorem ch_in (n m : Int) : F_ Try.prog L_haymowlaw04_awake Try.f7 chC [] 99 [.val (.int .u16 n), .val (.int .u16 m)] noMem =
    some (Fin_.head (hd Try.f7 0) (chTm (IntKind.i64.wrap (1 + (IntKind.i64.wrap n).tmod 8192)) (IntKind.i64.wrap (1 + (IntKind.i64.wrap m).tmod 8192)) 0) ⟨[], 0⟩ true) := by kernel_rfl
theorem ch_round (a b k : Int) : H_ Try.prog L_haymowlaw04_awake Try.f7 chC [] 99 (hd Try.f7 0) (chTm a b k) ⟨[], 0⟩ =
    bif decide (k < 14) then
      bif bif !class_Bounds_2 k then true else !((bif decide (class_Bounds_0 k ≤ a) then decide (a ≤ class_Bounds_1 k) else false) == (class_Of_0 a == k)) then
        some (Fin_.ret (vb false) ⟨[], 99⟩ (bif c_class_Bounds k then bif !!!class_Bounds_2 k || c_class_Of a then true else false else false))
      else some (Fin_.head (hd Try.f7 0) (chTm a b (IntKind.i64.wrap (k + 1))) ⟨[], 0⟩ (bif c_class_Bounds k then bif !!!class_Bounds_2 k || c_class_Of a then true else false else false))
    else some (Fin_.ret (vb (bif bif decide (b < a) then true else decide (class_Of_0 a ≤ class_Of_0 b) then bif decide (a < b) then true else decide (class_Of_0 b ≤ class_Of_0 a) else false)) ⟨[], 99⟩
      (bif !!decide (b < a) || c_class_Of a then bif !!decide (b < a) || c_class_Of b then
        bif !((bif decide (b < a) then true else decide (class_Of_0 a ≤ class_Of_0 b)) && !decide (a < b)) || c_class_Of b then
        bif !((bif decide (b < a) then true else decide (class_Of_0 a ≤ class_Of_0 b)) && !decide (a < b)) || c_class_Of a then true else false else false else false else false)) := by kernel_rfl
theorem ch_loop (a b : Int) (a1 : 1 ≤ a) (a2 : a ≤ 8192) (b1 : 1 ≤ b) (b2 : b ≤ 8192) : ∀ (j k : Nat), k + j = 14 →
    Gives_ Try.prog Try.f7 0 ⟨hd Try.f7 0, chTm a b k, ⟨[], 0⟩⟩ (vb true) ⟨[], 99⟩
  | 0, k, hk => by
    refine H_ret (cuts := chC) (ns := []) (top := 99) hE_haymowlaw04_awake mixed rfl ?_
    rw [ch_round, decide_eq_false (show ¬ ((k : Int) < 14) by omega), (class_of a (by omega) (by omega)).2, (class_of b (by omega) (by omega)).2]
    have h1 : (bif decide (b < a) then true else decide (class_Of_0 a ≤ class_Of_0 b)) = true := by
      by_cases c : b < a
      · rw [decide_eq_true c]; rfl
      · rw [decide_eq_false c, decide_eq_true (of_mono a b a1 (by omega) b2)]; rfl
    have h2 : (bif decide (a < b) then true else decide (class_Of_0 b ≤ class_Of_0 a)) = true := by
      by_cases c : a < b
      · rw [decide_eq_true c]; rfl
      · rw [decide_eq_false c, decide_eq_true (of_mono b a b1 (by omega) a2)]; rfl
    rw [h1, h2]
    simp
  | j + 1, k, hk => by
    refine Goes.gives (H_head (f := Try.f7) (cuts := chC) (ns := []) (top := 99) (todo' := hd Try.f7 0) (tm' := chTm a b ((k + 1 : Nat) : Int)) (m' := ⟨[], 0⟩) hE_haymowlaw04_awake mixed rfl ?_) (ch_loop a b a1 a2 b1 b2 j (k + 1) (by omega))
    obtain ⟨g1, g2, _⟩ := bounds_at k (by omega)
    rw [ch_round, decide_eq_true (show (k : Int) < 14 by omega), g1, g2, holds_at k (by omega) a a1 a2, (class_of a (by omega) (by omega)).2, show IntKind.i64.wrap ((k : Int) + 1) = ((k + 1 : Nat) : Int) by rw [wr _ (by omega) (by omega)]; omega]
    simp
theorem ch_gives (n m : Int) (hn : 0 ≤ n ∧ n ≤ 65535) (hm : 0 ≤ m ∧ m ≤ 65535) : Gives_ Try.prog Try.f7 0 (enterA Try.f7 (bodyOf Try.f7) [.val (.int .u16 n), .val (.int .u16 m)] noMem) (vb true) ⟨[], 99⟩ := by
  have W : ∀ x : Int, 0 ≤ x → x ≤ 65535 → IntKind.i64.wrap (1 + (IntKind.i64.wrap x).tmod 8192) = 1 + x % 8192 := fun x h h' => by
    rw [wr x (by omega) (by omega), Int.tmod_eq_emod_of_nonneg h, wr (1 + x % 8192) (by omega) (by omega)]
  have h := ch_in n m
  rw [W n hn.1 hn.2, W m hm.1 hm.2] at h
  exact Goes.gives (F_head (f := Try.f7) (c := bodyOf Try.f7) (cuts := chC) (ns := []) (top := 99) hE_haymowlaw04_awake mixed rfl rfl h) (ch_loop _ _ (by omega) (by omega) (by omega) (by omega) 14 0 (by omega))
end Go.Proofs.Ytnkpegdmbocgaaa
