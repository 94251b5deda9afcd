/-
  Kinds of records: the plain law.
-/
import Derived.Test.YtpmcflidggofkaaRE
import Derived.Test.YtpmcflidggofkaaPlain
namespace Go.Proofs.Ytpmcflidggofkaa
open Go Go.RowKit
def bw0 (u : List UInt8) : Int := bif [112, 114, 111, 102, 105, 108, 101] == u then 20 else bif [99, 101, 110, 115, 117, 115] == u then 19 else bif [115, 116, 97, 116, 115] == u then 18 else bif [99, 111, 108, 108, 101, 99, 116] == u then 17 else bif [97, 103, 101] == u then 16 else bif [115, 105, 122, 101] == u then 15 else bif [115, 97, 109, 101] == u then 14 else bif [115, 101, 116] == u then 13 else bif [103, 101, 116] == u then 12 else bif [115, 116, 111, 114, 101] == u then 11 else bif [108, 111, 97, 100] == u then 10 else bif [110, 117, 108, 108] == u then 9 else bif [99, 111, 112, 121] == u then 8 else bif [100, 101, 114, 101, 102] == u then 7 else bif [117, 110, 119, 101, 97, 107] == u then 6 else bif [119, 101, 97, 107] == u then 5 else bif [112, 111, 112] == u then 4 else bif [112, 117, 115, 104] == u then 3 else bif [114, 101, 108, 101, 97, 115, 101] == u then 2 else bif [103, 108, 111, 98, 97, 108] == u then 1 else bif [97, 108, 108, 111, 99] == u then 0 else 0
def bw1 (u : List UInt8) : Bool := bif [112, 114, 111, 102, 105, 108, 101] == u then true else bif [99, 101, 110, 115, 117, 115] == u then true else bif [115, 116, 97, 116, 115] == u then true else bif [99, 111, 108, 108, 101, 99, 116] == u then true else bif [97, 103, 101] == u then true else bif [115, 105, 122, 101] == u then true else bif [115, 97, 109, 101] == u then true else bif [115, 101, 116] == u then true else bif [103, 101, 116] == u then true else bif [115, 116, 111, 114, 101] == u then true else bif [108, 111, 97, 100] == u then true else bif [110, 117, 108, 108] == u then true else bif [99, 111, 112, 121] == u then true else bif [100, 101, 114, 101, 102] == u then true else bif [117, 110, 119, 101, 97, 107] == u then true else bif [119, 101, 97, 107] == u then true else bif [112, 111, 112] == u then true else bif [112, 117, 115, 104] == u then true else bif [114, 101, 108, 101, 97, 115, 101] == u then true else bif [103, 108, 111, 98, 97, 108] == u then true else bif [97, 108, 108, 111, 99] == u then true else false
def fw0 (u : List UInt8) : Int := bif [97, 108, 108, 111, 99] == u then 0 else bif [103, 108, 111, 98, 97, 108] == u then 1 else bif [114, 101, 108, 101, 97, 115, 101] == u then 2 else bif [112, 117, 115, 104] == u then 3 else bif [112, 111, 112] == u then 4 else bif [119, 101, 97, 107] == u then 5 else bif [117, 110, 119, 101, 97, 107] == u then 6 else bif [100, 101, 114, 101, 102] == u then 7 else bif [99, 111, 112, 121] == u then 8 else bif [110, 117, 108, 108] == u then 9 else bif [108, 111, 97, 100] == u then 10 else bif [115, 116, 111, 114, 101] == u then 11 else bif [103, 101, 116] == u then 12 else bif [115, 101, 116] == u then 13 else bif [115, 97, 109, 101] == u then 14 else bif [115, 105, 122, 101] == u then 15 else bif [97, 103, 101] == u then 16 else bif [99, 111, 108, 108, 101, 99, 116] == u then 17 else bif [115, 116, 97, 116, 115] == u then 18 else bif [99, 101, 110, 115, 117, 115] == u then 19 else bif [112, 114, 111, 102, 105, 108, 101] == u then 20 else 0
def fw1 (u : List UInt8) : Bool := bif [97, 108, 108, 111, 99] == u then true else bif [103, 108, 111, 98, 97, 108] == u then true else bif [114, 101, 108, 101, 97, 115, 101] == u then true else bif [112, 117, 115, 104] == u then true else bif [112, 111, 112] == u then true else bif [119, 101, 97, 107] == u then true else bif [117, 110, 119, 101, 97, 107] == u then true else bif [100, 101, 114, 101, 102] == u then true else bif [99, 111, 112, 121] == u then true else bif [110, 117, 108, 108] == u then true else bif [108, 111, 97, 100] == u then true else bif [115, 116, 111, 114, 101] == u then true else bif [103, 101, 116] == u then true else bif [115, 101, 116] == u then true else bif [115, 97, 109, 101] == u then true else bif [115, 105, 122, 101] == u then true else bif [97, 103, 101] == u then true else bif [99, 111, 108, 108, 101, 99, 116] == u then true else bif [115, 116, 97, 116, 115] == u then true else bif [99, 101, 110, 115, 117, 115] == u then true else bif [112, 114, 111, 102, 105, 108, 101] == u then true else false
theorem fwbw (u : List UInt8) : fw0 u = bw0 u ∧ fw1 u = bw1 u := by
  by_cases h0 : [97, 108, 108, 111, 99] = u
  · subst h0; exact ⟨rfl, rfl⟩
  by_cases h1 : [103, 108, 111, 98, 97, 108] = u
  · subst h1; exact ⟨rfl, rfl⟩
  by_cases h2 : [114, 101, 108, 101, 97, 115, 101] = u
  · subst h2; exact ⟨rfl, rfl⟩
  by_cases h3 : [112, 117, 115, 104] = u
  · subst h3; exact ⟨rfl, rfl⟩
  by_cases h4 : [112, 111, 112] = u
  · subst h4; exact ⟨rfl, rfl⟩
  by_cases h5 : [119, 101, 97, 107] = u
  · subst h5; exact ⟨rfl, rfl⟩
  by_cases h6 : [117, 110, 119, 101, 97, 107] = u
  · subst h6; exact ⟨rfl, rfl⟩
  by_cases h7 : [100, 101, 114, 101, 102] = u
  · subst h7; exact ⟨rfl, rfl⟩
  by_cases h8 : [99, 111, 112, 121] = u
  · subst h8; exact ⟨rfl, rfl⟩
  by_cases h9 : [110, 117, 108, 108] = u
  · subst h9; exact ⟨rfl, rfl⟩
  by_cases h10 : [108, 111, 97, 100] = u
  · subst h10; exact ⟨rfl, rfl⟩
  by_cases h11 : [115, 116, 111, 114, 101] = u
  · subst h11; exact ⟨rfl, rfl⟩
  by_cases h12 : [103, 101, 116] = u
  · subst h12; exact ⟨rfl, rfl⟩
  by_cases h13 : [115, 101, 116] = u
  · subst h13; exact ⟨rfl, rfl⟩
  by_cases h14 : [115, 97, 109, 101] = u
  · subst h14; exact ⟨rfl, rfl⟩
  by_cases h15 : [115, 105, 122, 101] = u
  · subst h15; exact ⟨rfl, rfl⟩
  by_cases h16 : [97, 103, 101] = u
  · subst h16; exact ⟨rfl, rfl⟩
  by_cases h17 : [99, 111, 108, 108, 101, 99, 116] = u
  · subst h17; exact ⟨rfl, rfl⟩
  by_cases h18 : [115, 116, 97, 116, 115] = u
  · subst h18; exact ⟨rfl, rfl⟩
  by_cases h19 : [99, 101, 110, 115, 117, 115] = u
  · subst h19; exact ⟨rfl, rfl⟩
  by_cases h20 : [112, 114, 111, 102, 105, 108, 101] = u
  · subst h20; exact ⟨rfl, rfl⟩
  unfold fw0 bw0 fw1 bw1
  rw [show ([97, 108, 108, 111, 99] == u) = false from beq_eq_false_iff_ne.2 h0, show ([103, 108, 111, 98, 97, 108] == u) = false from beq_eq_false_iff_ne.2 h1, show ([114, 101, 108, 101, 97, 115, 101] == u) = false from beq_eq_false_iff_ne.2 h2, show ([112, 117, 115, 104] == u) = false from beq_eq_false_iff_ne.2 h3, show ([112, 111, 112] == u) = false from beq_eq_false_iff_ne.2 h4, show ([119, 101, 97, 107] == u) = false from beq_eq_false_iff_ne.2 h5, show ([117, 110, 119, 101, 97, 107] == u) = false from beq_eq_false_iff_ne.2 h6, show ([100, 101, 114, 101, 102] == u) = false from beq_eq_false_iff_ne.2 h7, show ([99, 111, 112, 121] == u) = false from beq_eq_false_iff_ne.2 h8, show ([110, 117, 108, 108] == u) = false from beq_eq_false_iff_ne.2 h9, show ([108, 111, 97, 100] == u) = false from beq_eq_false_iff_ne.2 h10, show ([115, 116, 111, 114, 101] == u) = false from beq_eq_false_iff_ne.2 h11, show ([103, 101, 116] == u) = false from beq_eq_false_iff_ne.2 h12, show ([115, 101, 116] == u) = false from beq_eq_false_iff_ne.2 h13, show ([115, 97, 109, 101] == u) = false from beq_eq_false_iff_ne.2 h14, show ([115, 105, 122, 101] == u) = false from beq_eq_false_iff_ne.2 h15, show ([97, 103, 101] == u) = false from beq_eq_false_iff_ne.2 h16, show ([99, 111, 108, 108, 101, 99, 116] == u) = false from beq_eq_false_iff_ne.2 h17, show ([115, 116, 97, 116, 115] == u) = false from beq_eq_false_iff_ne.2 h18, show ([99, 101, 110, 115, 117, 115] == u) = false from beq_eq_false_iff_ne.2 h19, show ([112, 114, 111, 102, 105, 108, 101] == u) = false from beq_eq_false_iff_ne.2 h20]
  exact ⟨rfl, rfl⟩
theorem nm0 (w : ByteArray) : record_Named_0 w = bw0 w.toList := (fwbw w.toList).1
theorem nm1 (w : ByteArray) : record_Named_1 w = bw1 w.toList := (fwbw w.toList).2
theorem tab_all : ((List.range 21).all fun n => recAr (n : Int) == haymowref34_Arity_0 (n : Int) && (decide (0 ≤ haymowref34_Arity_0 (n : Int)) && (c_haymowref34_Arity (n : Int) && ((recWd (n : Int)).toList == (wdL.getD (addN 0 (mulN (n : Int).toNat 1) + 0) ⟨#[]⟩).toList && (decide (addN 0 (mulN (n : Int).toNat 1) + 0 < 21) && decide (haymowref34_Arity_0 (n : Int) ≤ 4)))))) = true := by decide +kernel
theorem tab_at {n : Nat} (h : n < 21) : recAr (n : Int) = haymowref34_Arity_0 (n : Int) ∧ 0 ≤ haymowref34_Arity_0 (n : Int) ∧ c_haymowref34_Arity (n : Int) = true ∧ ((recWd (n : Int)).toList == (wdL.getD (addN 0 (mulN (n : Int).toNat 1) + 0) ⟨#[]⟩).toList) = true ∧ addN 0 (mulN (n : Int).toNat 1) + 0 < 21 ∧ haymowref34_Arity_0 (n : Int) ≤ 4 := by
  have := List.all_eq_true.1 tab_all n (List.mem_range.2 h)
  simp only [Bool.and_eq_true, beq_iff_eq, decide_eq_true_eq] at this
  obtain ⟨h1, h2, h3, h4, h5, h6⟩ := this
  exact ⟨h1, h2, h3, by simp only [beq_iff_eq]; exact h4, h5, h6⟩
theorem tab_no {k : Int} (h : record_Is_0 k = false) : recAr k = -1 ∧ haymowref34_Arity_0 k = -1 ∧ c_haymowref34_Arity k = true ∧ recWd k = ⟨#[]⟩ := by
  unfold recAr recWd
  rw [h]
  have hk : ¬ (0 ≤ k ∧ k < 21) := fun hk => by
    unfold record_Is_0 at h
    rw [decide_eq_true hk.1, decide_eq_true hk.2] at h
    cases h
  unfold haymowref34_Arity_0 c_haymowref34_Arity
  by_cases h0 : k < 0
  · rw [decide_eq_true h0]; exact ⟨rfl, rfl, rfl, rfl⟩
  · rw [decide_eq_false h0, decide_eq_true (show 20 < k by omega)]; exact ⟨rfl, rfl, rfl, rfl⟩
theorem kinds_true (k : Int) (word : ByteArray) : haymowlaw34_RecordKinds_0 k word = true ∧ c_haymowlaw34_RecordKinds k word = true := by
  unfold haymowlaw34_RecordKinds_0 c_haymowlaw34_RecordKinds
  rw [nm0, nm1]
  unfold bw0 bw1
  cases hk : record_Is_0 k with
  | true =>
    obtain ⟨n, rfl, hn⟩ := is_nat hk
    obtain ⟨h1, h2, h3, h4, h5, h6⟩ := tab_at hn
    rw [h1, h3, decide_eq_true h2, decide_eq_false (show ¬ haymowref34_Arity_0 (n : Int) < 0 by omega), decide_eq_true (show (0 : Int) ≤ (n : Int) by omega), decide_eq_true (show (n : Int).toNat < 21 by omega), decide_eq_true h5]
    simp only [bne_self_eq_false, beq_self_eq_true, Bool.not_true, cond_false, cond_true]
    exact ⟨h4, trivial⟩
  | false =>
    obtain ⟨h1, h2, h3, h4⟩ := tab_no hk
    rw [h1, h2, h3, h4]
    simp only [bne_self_eq_false, beq_self_eq_true, Bool.not_true, cond_false, cond_true, show decide ((0 : Int) ≤ -1) = false by decide, show decide ((-1 : Int) < 0) = true by decide]
    exact ⟨by decide +kernel, trivial⟩
theorem kinds_all (k : Int) (word : ByteArray) (w : World) : Gives 6 #[.int .i64 k, .string word] w (.bool true) := by
  have hx : AV.rels (fun _ => ⟨0, 0, 0⟩) 0 [vi k, vs word] [.int .i64 k, .string word] := by
    simp only [AV.rels, AV.rel]
    exact ⟨_, _, rfl, rfl, _, _, rfl, rfl, rfl⟩
  have h := t_haymowlaw34_RecordKinds k word (kinds_true k word).2
  unfold s_haymowlaw34_RecordKinds at h
  rw [(kinds_true k word).1] at h
  exact plain_gives hE_a34 mixed Try.func6 rfl h hx
end Go.Proofs.Ytpmcflidggofkaa
