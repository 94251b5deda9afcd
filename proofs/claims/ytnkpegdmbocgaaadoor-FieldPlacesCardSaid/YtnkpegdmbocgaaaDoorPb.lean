/-
  The document's Bits and Word.
-/
import Derived.Test.YtnkpegdmbocgaaaDoorPx
import Derived.Test.YtnkpegdmbocgaaaDoorSm
import Derived.Test.YtnkpegdmbocgaaaDoorLeaf
namespace Go.Proofs.YtnkpegdmbocgaaaDoor
open Go Go.RowKit
set_option maxRecDepth 100000
theorem wrapU (k : Nat) (hk : k < 2 ^ 64) : IntKind.u64.wrap (k : Int) = k := by
  simp only [IntKind.wrap, IntKind.bits, IntKind.signed]
  simp
  omega
/-- Halved so many times. -/
def hs : Nat → Int → Int
  | 0, x => x
  | k + 1, x => IntKind.u64.wrap ((hs k x).tdiv 2)
theorem hs_eq (n : Nat) (hn : n < 2 ^ 64) : ∀ k, hs k n = ((n / 2 ^ k : Nat) : Int)
  | 0 => by simp [hs]
  | k + 1 => by
    simp only [hs, hs_eq n hn k]
    have e : ((n / 2 ^ k : Nat) : Int).tdiv 2 = ((n / 2 ^ (k + 1) : Nat) : Int) := by
      rw [Nat.pow_succ, ← Nat.div_div_eq_div_mul]; rfl
    rw [e]
    exact wrapU _ (Nat.lt_of_le_of_lt (Nat.div_le_self _ _) hn)
theorem hs_bit (n : Nat) (hn : n < 2 ^ 64) (k : Nat) : ((hs k n).tmod 2 == 1) = n.testBit k := by
  rw [hs_eq n hn, Nat.testBit_eq_decide_div_mod_eq]
  have : (((n / 2 ^ k : Nat) : Int).tmod 2) = ((n / 2 ^ k % 2 : Nat) : Int) := rfl
  rw [this]
  generalize n / 2 ^ k % 2 = r
  by_cases h : r = 1
  · simp [h]
  · have h' : ¬ (r : Int) = 1 := by omega
    simp [h, h']
def bitX (n : Nat) : List Bool := [n.testBit 0, n.testBit 1, n.testBit 2, n.testBit 3, n.testBit 4, n.testBit 5, n.testBit 6, n.testBit 7, n.testBit 8, n.testBit 9, n.testBit 10, n.testBit 11, n.testBit 12, n.testBit 13, n.testBit 14, n.testBit 15, n.testBit 16, n.testBit 17, n.testBit 18, n.testBit 19, n.testBit 20, n.testBit 21, n.testBit 22, n.testBit 23, n.testBit 24, n.testBit 25, n.testBit 26, n.testBit 27, n.testBit 28, n.testBit 29, n.testBit 30, n.testBit 31, n.testBit 32, n.testBit 33, n.testBit 34, n.testBit 35, n.testBit 36, n.testBit 37, n.testBit 38, n.testBit 39, n.testBit 40, n.testBit 41, n.testBit 42, n.testBit 43, n.testBit 44, n.testBit 45, n.testBit 46, n.testBit 47, n.testBit 48, n.testBit 49, n.testBit 50, n.testBit 51, n.testBit 52, n.testBit 53, n.testBit 54, n.testBit 55, n.testBit 56, n.testBit 57, n.testBit 58, n.testBit 59, n.testBit 60, n.testBit 61, n.testBit 62, n.testBit 63]
theorem bitX_eq (n : Nat) : bitX n = (List.range 64).map n.testBit := rfl
def bitA (n : Nat) : List AV := [vb (n.testBit 0), vb (n.testBit 1), vb (n.testBit 2), vb (n.testBit 3), vb (n.testBit 4), vb (n.testBit 5), vb (n.testBit 6), vb (n.testBit 7), vb (n.testBit 8), vb (n.testBit 9), vb (n.testBit 10), vb (n.testBit 11), vb (n.testBit 12), vb (n.testBit 13), vb (n.testBit 14), vb (n.testBit 15), vb (n.testBit 16), vb (n.testBit 17), vb (n.testBit 18), vb (n.testBit 19), vb (n.testBit 20), vb (n.testBit 21), vb (n.testBit 22), vb (n.testBit 23), vb (n.testBit 24), vb (n.testBit 25), vb (n.testBit 26), vb (n.testBit 27), vb (n.testBit 28), vb (n.testBit 29), vb (n.testBit 30), vb (n.testBit 31), vb (n.testBit 32), vb (n.testBit 33), vb (n.testBit 34), vb (n.testBit 35), vb (n.testBit 36), vb (n.testBit 37), vb (n.testBit 38), vb (n.testBit 39), vb (n.testBit 40), vb (n.testBit 41), vb (n.testBit 42), vb (n.testBit 43), vb (n.testBit 44), vb (n.testBit 45), vb (n.testBit 46), vb (n.testBit 47), vb (n.testBit 48), vb (n.testBit 49), vb (n.testBit 50), vb (n.testBit 51), vb (n.testBit 52), vb (n.testBit 53), vb (n.testBit 54), vb (n.testBit 55), vb (n.testBit 56), vb (n.testBit 57), vb (n.testBit 58), vb (n.testBit 59), vb (n.testBit 60), vb (n.testBit 61), vb (n.testBit 62), vb (n.testBit 63)]
def bitR (x : Int) : List AV := [vb (((hs 0 x).tmod 2) == 1), vb (((hs 1 x).tmod 2) == 1), vb (((hs 2 x).tmod 2) == 1), vb (((hs 3 x).tmod 2) == 1), vb (((hs 4 x).tmod 2) == 1), vb (((hs 5 x).tmod 2) == 1), vb (((hs 6 x).tmod 2) == 1), vb (((hs 7 x).tmod 2) == 1), vb (((hs 8 x).tmod 2) == 1), vb (((hs 9 x).tmod 2) == 1), vb (((hs 10 x).tmod 2) == 1), vb (((hs 11 x).tmod 2) == 1), vb (((hs 12 x).tmod 2) == 1), vb (((hs 13 x).tmod 2) == 1), vb (((hs 14 x).tmod 2) == 1), vb (((hs 15 x).tmod 2) == 1), vb (((hs 16 x).tmod 2) == 1), vb (((hs 17 x).tmod 2) == 1), vb (((hs 18 x).tmod 2) == 1), vb (((hs 19 x).tmod 2) == 1), vb (((hs 20 x).tmod 2) == 1), vb (((hs 21 x).tmod 2) == 1), vb (((hs 22 x).tmod 2) == 1), vb (((hs 23 x).tmod 2) == 1), vb (((hs 24 x).tmod 2) == 1), vb (((hs 25 x).tmod 2) == 1), vb (((hs 26 x).tmod 2) == 1), vb (((hs 27 x).tmod 2) == 1), vb (((hs 28 x).tmod 2) == 1), vb (((hs 29 x).tmod 2) == 1), vb (((hs 30 x).tmod 2) == 1), vb (((hs 31 x).tmod 2) == 1), vb (((hs 32 x).tmod 2) == 1), vb (((hs 33 x).tmod 2) == 1), vb (((hs 34 x).tmod 2) == 1), vb (((hs 35 x).tmod 2) == 1), vb (((hs 36 x).tmod 2) == 1), vb (((hs 37 x).tmod 2) == 1), vb (((hs 38 x).tmod 2) == 1), vb (((hs 39 x).tmod 2) == 1), vb (((hs 40 x).tmod 2) == 1), vb (((hs 41 x).tmod 2) == 1), vb (((hs 42 x).tmod 2) == 1), vb (((hs 43 x).tmod 2) == 1), vb (((hs 44 x).tmod 2) == 1), vb (((hs 45 x).tmod 2) == 1), vb (((hs 46 x).tmod 2) == 1), vb (((hs 47 x).tmod 2) == 1), vb (((hs 48 x).tmod 2) == 1), vb (((hs 49 x).tmod 2) == 1), vb (((hs 50 x).tmod 2) == 1), vb (((hs 51 x).tmod 2) == 1), vb (((hs 52 x).tmod 2) == 1), vb (((hs 53 x).tmod 2) == 1), vb (((hs 54 x).tmod 2) == 1), vb (((hs 55 x).tmod 2) == 1), vb (((hs 56 x).tmod 2) == 1), vb (((hs 57 x).tmod 2) == 1), vb (((hs 58 x).tmod 2) == 1), vb (((hs 59 x).tmod 2) == 1), vb (((hs 60 x).tmod 2) == 1), vb (((hs 61 x).tmod 2) == 1), vb (((hs 62 x).tmod 2) == 1), vb (((hs 63 x).tmod 2) == 1)]
theorem bitR_eq (n : Nat) (hn : n < 2 ^ 64) : bitR n = bitA n := by
  unfold bitR bitA
  simp only [hs_bit n hn]
theorem run_bits (x : Int) : F_ Tryd.prog [] Tryd.f23 [] [] 999 [vu x] noMem = some (.ret (.agg (bitR x)) ⟨[], 999⟩ true) := by kernel_rfl
def e_bits : Spec := fun _ args => match args with
  | [.val (.int .u64 x)] => some (.agg (bitA x.toNat), none, [decide (0 ≤ x), decide (x ≤ 18446744073709551615)])
  | _ => none
theorem bitA_ground (n : Nat) : (AV.agg (bitA n)).ground = true := rfl
theorem ok_bits : SpecOk Tryd.prog 23 e_bits := fun m args v mo bs h hb => by
  unfold e_bits at h
  split at h <;> try cases h
  rename_i x
  simp at hb
  obtain ⟨n, rfl⟩ : ∃ n : Nat, x = n := ⟨x.toNat, by omega⟩
  have hn : n < 2 ^ 64 := by omega
  have h := run_bits n
  rw [bitR_eq n hn] at h
  rw [Int.toNat_natCast]
  exact pure_fn (c := bodyOf Tryd.f23) env_nil mixed (fun xs w => Tryd.call23 xs w) Tryd.func23 rfl h rfl rfl
/-- A word of bits, as it is reckoned. -/
def wordR : List Bool → Int
  | [] => 0
  | b :: r => bif b then IntKind.u64.wrap (IntKind.u64.wrap (wordR r * 2) + 1) else IntKind.u64.wrap (wordR r * 2)
theorem run_word (b0 b1 b2 b3 b4 b5 b6 b7 b8 b9 b10 b11 b12 b13 b14 b15 b16 b17 b18 b19 b20 b21 b22 b23 b24 b25 b26 b27 b28 b29 b30 b31 b32 b33 b34 b35 b36 b37 b38 b39 b40 b41 b42 b43 b44 b45 b46 b47 b48 b49 b50 b51 b52 b53 b54 b55 b56 b57 b58 b59 b60 b61 b62 b63 : Bool) : F_ Tryd.prog [] Tryd.f27 [mrgC] [] 999 [.agg [vb b0, vb b1, vb b2, vb b3, vb b4, vb b5, vb b6, vb b7, vb b8, vb b9, vb b10, vb b11, vb b12, vb b13, vb b14, vb b15, vb b16, vb b17, vb b18, vb b19, vb b20, vb b21, vb b22, vb b23, vb b24, vb b25, vb b26, vb b27, vb b28, vb b29, vb b30, vb b31, vb b32, vb b33, vb b34, vb b35, vb b36, vb b37, vb b38, vb b39, vb b40, vb b41, vb b42, vb b43, vb b44, vb b45, vb b46, vb b47, vb b48, vb b49, vb b50, vb b51, vb b52, vb b53, vb b54, vb b55, vb b56, vb b57, vb b58, vb b59, vb b60, vb b61, vb b62, vb b63]] noMem = some (.ret (vu (wordR [b0, b1, b2, b3, b4, b5, b6, b7, b8, b9, b10, b11, b12, b13, b14, b15, b16, b17, b18, b19, b20, b21, b22, b23, b24, b25, b26, b27, b28, b29, b30, b31, b32, b33, b34, b35, b36, b37, b38, b39, b40, b41, b42, b43, b44, b45, b46, b47, b48, b49, b50, b51, b52, b53, b54, b55, b56, b57, b58, b59, b60, b61, b62, b63])) ⟨[], 999⟩ true) := by kernel_rfl
theorem list64 {l : List Bool} (h : l.length = 64) : ∃ b0 b1 b2 b3 b4 b5 b6 b7 b8 b9 b10 b11 b12 b13 b14 b15 b16 b17 b18 b19 b20 b21 b22 b23 b24 b25 b26 b27 b28 b29 b30 b31 b32 b33 b34 b35 b36 b37 b38 b39 b40 b41 b42 b43 b44 b45 b46 b47 b48 b49 b50 b51 b52 b53 b54 b55 b56 b57 b58 b59 b60 b61 b62 b63 : Bool, l = [b0, b1, b2, b3, b4, b5, b6, b7, b8, b9, b10, b11, b12, b13, b14, b15, b16, b17, b18, b19, b20, b21, b22, b23, b24, b25, b26, b27, b28, b29, b30, b31, b32, b33, b34, b35, b36, b37, b38, b39, b40, b41, b42, b43, b44, b45, b46, b47, b48, b49, b50, b51, b52, b53, b54, b55, b56, b57, b58, b59, b60, b61, b62, b63] := by
  obtain ⟨b0, r0, rfl, h1⟩ := list_cons h
  obtain ⟨b1, r1, rfl, h2⟩ := list_cons h1
  obtain ⟨b2, r2, rfl, h3⟩ := list_cons h2
  obtain ⟨b3, r3, rfl, h4⟩ := list_cons h3
  obtain ⟨b4, r4, rfl, h5⟩ := list_cons h4
  obtain ⟨b5, r5, rfl, h6⟩ := list_cons h5
  obtain ⟨b6, r6, rfl, h7⟩ := list_cons h6
  obtain ⟨b7, r7, rfl, h8⟩ := list_cons h7
  obtain ⟨b8, r8, rfl, h9⟩ := list_cons h8
  obtain ⟨b9, r9, rfl, h10⟩ := list_cons h9
  obtain ⟨b10, r10, rfl, h11⟩ := list_cons h10
  obtain ⟨b11, r11, rfl, h12⟩ := list_cons h11
  obtain ⟨b12, r12, rfl, h13⟩ := list_cons h12
  obtain ⟨b13, r13, rfl, h14⟩ := list_cons h13
  obtain ⟨b14, r14, rfl, h15⟩ := list_cons h14
  obtain ⟨b15, r15, rfl, h16⟩ := list_cons h15
  obtain ⟨b16, r16, rfl, h17⟩ := list_cons h16
  obtain ⟨b17, r17, rfl, h18⟩ := list_cons h17
  obtain ⟨b18, r18, rfl, h19⟩ := list_cons h18
  obtain ⟨b19, r19, rfl, h20⟩ := list_cons h19
  obtain ⟨b20, r20, rfl, h21⟩ := list_cons h20
  obtain ⟨b21, r21, rfl, h22⟩ := list_cons h21
  obtain ⟨b22, r22, rfl, h23⟩ := list_cons h22
  obtain ⟨b23, r23, rfl, h24⟩ := list_cons h23
  obtain ⟨b24, r24, rfl, h25⟩ := list_cons h24
  obtain ⟨b25, r25, rfl, h26⟩ := list_cons h25
  obtain ⟨b26, r26, rfl, h27⟩ := list_cons h26
  obtain ⟨b27, r27, rfl, h28⟩ := list_cons h27
  obtain ⟨b28, r28, rfl, h29⟩ := list_cons h28
  obtain ⟨b29, r29, rfl, h30⟩ := list_cons h29
  obtain ⟨b30, r30, rfl, h31⟩ := list_cons h30
  obtain ⟨b31, r31, rfl, h32⟩ := list_cons h31
  obtain ⟨b32, r32, rfl, h33⟩ := list_cons h32
  obtain ⟨b33, r33, rfl, h34⟩ := list_cons h33
  obtain ⟨b34, r34, rfl, h35⟩ := list_cons h34
  obtain ⟨b35, r35, rfl, h36⟩ := list_cons h35
  obtain ⟨b36, r36, rfl, h37⟩ := list_cons h36
  obtain ⟨b37, r37, rfl, h38⟩ := list_cons h37
  obtain ⟨b38, r38, rfl, h39⟩ := list_cons h38
  obtain ⟨b39, r39, rfl, h40⟩ := list_cons h39
  obtain ⟨b40, r40, rfl, h41⟩ := list_cons h40
  obtain ⟨b41, r41, rfl, h42⟩ := list_cons h41
  obtain ⟨b42, r42, rfl, h43⟩ := list_cons h42
  obtain ⟨b43, r43, rfl, h44⟩ := list_cons h43
  obtain ⟨b44, r44, rfl, h45⟩ := list_cons h44
  obtain ⟨b45, r45, rfl, h46⟩ := list_cons h45
  obtain ⟨b46, r46, rfl, h47⟩ := list_cons h46
  obtain ⟨b47, r47, rfl, h48⟩ := list_cons h47
  obtain ⟨b48, r48, rfl, h49⟩ := list_cons h48
  obtain ⟨b49, r49, rfl, h50⟩ := list_cons h49
  obtain ⟨b50, r50, rfl, h51⟩ := list_cons h50
  obtain ⟨b51, r51, rfl, h52⟩ := list_cons h51
  obtain ⟨b52, r52, rfl, h53⟩ := list_cons h52
  obtain ⟨b53, r53, rfl, h54⟩ := list_cons h53
  obtain ⟨b54, r54, rfl, h55⟩ := list_cons h54
  obtain ⟨b55, r55, rfl, h56⟩ := list_cons h55
  obtain ⟨b56, r56, rfl, h57⟩ := list_cons h56
  obtain ⟨b57, r57, rfl, h58⟩ := list_cons h57
  obtain ⟨b58, r58, rfl, h59⟩ := list_cons h58
  obtain ⟨b59, r59, rfl, h60⟩ := list_cons h59
  obtain ⟨b60, r60, rfl, h61⟩ := list_cons h60
  obtain ⟨b61, r61, rfl, h62⟩ := list_cons h61
  obtain ⟨b62, r62, rfl, h63⟩ := list_cons h62
  obtain ⟨b63, r63, rfl, h64⟩ := list_cons h63
  cases list_nil h64
  exact ⟨b0, b1, b2, b3, b4, b5, b6, b7, b8, b9, b10, b11, b12, b13, b14, b15, b16, b17, b18, b19, b20, b21, b22, b23, b24, b25, b26, b27, b28, b29, b30, b31, b32, b33, b34, b35, b36, b37, b38, b39, b40, b41, b42, b43, b44, b45, b46, b47, b48, b49, b50, b51, b52, b53, b54, b55, b56, b57, b58, b59, b60, b61, b62, b63, rfl⟩
def e_word : Spec := fun _ args => match args with
  | [.agg cs] => match boolsOf cs with
    | some bs => some (vu (wordR bs), none, [decide (bs.length = 64)])
    | none => none
  | _ => none
theorem ok_word : SpecOk Tryd.prog 27 e_word := fun m args v mo bs h hb => by
  unfold e_word at h
  split at h <;> try cases h
  split at h <;> try cases h
  rename_i cs bl hc
  simp at hb
  rw [boolsOf_eq hc]
  obtain ⟨b0, b1, b2, b3, b4, b5, b6, b7, b8, b9, b10, b11, b12, b13, b14, b15, b16, b17, b18, b19, b20, b21, b22, b23, b24, b25, b26, b27, b28, b29, b30, b31, b32, b33, b34, b35, b36, b37, b38, b39, b40, b41, b42, b43, b44, b45, b46, b47, b48, b49, b50, b51, b52, b53, b54, b55, b56, b57, b58, b59, b60, b61, b62, b63, rfl⟩ := list64 hb
  exact pure_fn (c := bodyOf Tryd.f27) env_nil mixed (fun xs w => Tryd.call27 xs w) Tryd.func27 rfl (run_word b0 b1 b2 b3 b4 b5 b6 b7 b8 b9 b10 b11 b12 b13 b14 b15 b16 b17 b18 b19 b20 b21 b22 b23 b24 b25 b26 b27 b28 b29 b30 b31 b32 b33 b34 b35 b36 b37 b38 b39 b40 b41 b42 b43 b44 b45 b46 b47 b48 b49 b50 b51 b52 b53 b54 b55 b56 b57 b58 b59 b60 b61 b62 b63) rfl rfl
theorem wordR_eq : ∀ l : List Bool, l.length ≤ 64 → ∃ n : Nat, n < 2 ^ l.length ∧ wordR l = n ∧ ∀ i, n.testBit i = l.getD i false
  | [], _ => ⟨0, by decide, rfl, fun i => by simp⟩
  | b :: r, h => by
    simp only [List.length_cons] at h
    obtain ⟨n, h1, h2, h3⟩ := wordR_eq r (by omega)
    have hp : 2 ^ r.length ≤ 2 ^ 63 := Nat.pow_le_pow_right (by decide) (by omega)
    have hw := wrapU
    refine ⟨2 * n + b.toNat, ?_, ?_, fun i => ?_⟩
    · rw [List.length_cons, Nat.pow_succ]
      cases b <;> simp <;> omega
    · simp only [wordR, h2]
      have e : (n : Int) * 2 = ((2 * n : Nat) : Int) := by omega
      rw [e, hw (2 * n) (by omega)]
      cases b with
      | false => simp
      | true =>
        have e' : ((2 * n : Nat) : Int) + 1 = ((2 * n + 1 : Nat) : Int) := rfl
        rw [e', hw (2 * n + 1) (by omega)]
        rfl
    · cases i with
      | zero => cases b <;> simp
      | succ i =>
        have e : (2 * n + b.toNat).testBit (i + 1) = n.testBit i := by
          rw [Nat.testBit_succ]
          congr 1
          cases b <;> simp <;> omega
        rw [e, h3]
        rfl
end Go.Proofs.YtnkpegdmbocgaaaDoor
