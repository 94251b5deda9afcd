/-
  Texts read as numbers: the walks of digits.shaped and digits.Read.
-/
import Derived.Test.YtpmcflidggofkaaDA
namespace Go.Proofs.Ytpmcflidggofkaa
open Go Go.RowKit
abbrev tp (s : ByteArray) : ByteArray := strings_TrimPrefix_0 s ⟨#[45]⟩
def shH (s : ByteArray) : Bool := bif (tp s).toList == [] then true else bif byteAt (tp s) 0 == 48 then bif decide (1 < Int.ofNat (tp s).size) then true else decide (1 < Int.ofNat s.size) else false
def shK (s : ByteArray) : Bool := bif c_strings_TrimPrefix s ⟨#[45]⟩ then bif !!((tp s).toList == []) || true then bif !!((tp s).toList == []) || decide (0 < (tp s).size) then true else false else false else false
def badB (d : ByteArray) (i : Nat) : Bool := bif decide (byteAt d i < 48) then true else decide (57 < byteAt d i)
def shO (d : ByteArray) (i : Int) : Bool := bif decide (0 ≤ i) then bif decide (i.toNat < d.size) then bif !!decide (byteAt d i.toNat < 48) || decide (0 ≤ i) then bif !!decide (byteAt d i.toNat < 48) || decide (i.toNat < d.size) then true else false else false else false else false
/-- Are all digits? -/
def digs (d : ByteArray) : Nat → Nat → Bool
  | _, 0 => true
  | i, j + 1 => bif badB d i then false else digs d (i + 1) j
def shC : List Cut := [(2, [3, 25, 26], [], 0)]
def shTm (d : ByteArray) (n i : Int) : List AV := [.unk, .unk, .unk, vs d] ++ List.replicate 21 .unk ++ [vi n, vi i] ++ List.replicate 13 .unk
theorem sh_in (s : ByteArray) : F_ Try.prog L_strings_TrimPrefix Try.f31 shC [] 99 [vs s] noMem =
    bif shH s then some (Fin_.ret (vb false) ⟨[], 99⟩ (shK s)) else some (Fin_.head (hd Try.f31 0) (shTm (tp s) (Int.ofNat (tp s).size) 0) ⟨[], 0⟩ (shK s)) := by kernel_rfl
theorem sh_round (d : ByteArray) (n i : Int) : H_ Try.prog L_strings_TrimPrefix Try.f31 shC [] 99 (hd Try.f31 0) (shTm d n i) ⟨[], 0⟩ =
    bif decide (i < n) then bif badB d i.toNat then some (Fin_.ret (vb false) ⟨[], 99⟩ (shO d i)) else some (Fin_.head (hd Try.f31 0) (shTm d n (IntKind.i64.wrap (i + 1))) ⟨[], 0⟩ (shO d i))
    else some (Fin_.ret (vb true) ⟨[], 99⟩ true) := by kernel_rfl
theorem shO_ok {d : ByteArray} {i : Nat} (h : i < d.size) : shO d (i : Int) = true := by
  unfold shO
  rw [Int.toNat_natCast, decide_eq_true (show (0 : Int) ≤ i by omega), decide_eq_true h]
  simp
theorem sh_loop (d : ByteArray) (hd' : d.size ≤ 9223372036854775807) : ∀ (j i : Nat), i + j = d.size →
    Gives_ Try.prog Try.f31 0 ⟨hd Try.f31 0, shTm d (Int.ofNat d.size) i, ⟨[], 0⟩⟩ (vb (digs d i j)) ⟨[], 99⟩
  | 0, i, hi => by
    refine H_ret (cuts := shC) (ns := []) (top := 99) hE_strings_TrimPrefix mixed rfl ?_
    rw [sh_round, decide_eq_false (show ¬ (i : Int) < Int.ofNat d.size by simp; omega)]
    rfl
  | j + 1, i, hi => by
    have hlt : (i : Int) < Int.ofNat d.size := by simp; omega
    unfold digs
    cases hb : badB d i with
    | true =>
      refine H_ret (cuts := shC) (ns := []) (top := 99) hE_strings_TrimPrefix mixed rfl ?_
      rw [sh_round, decide_eq_true hlt, Int.toNat_natCast, hb, shO_ok (by omega)]
      rfl
    | false =>
      refine Goes.gives (H_head (f := Try.f31) (cuts := shC) (ns := []) (top := 99) (todo' := hd Try.f31 0) (tm' := shTm d (Int.ofNat d.size) ((i + 1 : Nat) : Int)) (m' := ⟨[], 0⟩) hE_strings_TrimPrefix mixed rfl ?_) (sh_loop d hd' j (i + 1) (by omega))
      rw [sh_round, decide_eq_true hlt, Int.toNat_natCast, hb, shO_ok (by omega), show IntKind.i64.wrap ((i : Int) + 1) = ((i + 1 : Nat) : Int) by rw [wk _ (by omega) (by omega)]; omega]
      rfl
def shV (s : ByteArray) : Bool := bif shH s then false else digs (tp s) 0 (tp s).size
def e_shaped : Spec := fun _ args => match args with
  | [.val (.string s)] => some (vb (shV s), none, [shK s, Nat.ble (tp s).size 9223372036854775807])
  | _ => none
theorem ok_shaped : SpecOk Try.prog 31 e_shaped := fun m args v mo bs h hb => by
  unfold e_shaped at h
  split at h
  · rename_i s
    cases h
    simp only [List.all_cons, List.all_nil, id, Bool.and_eq_true, Bool.and_true] at hb
    have hin := sh_in s
    rw [hb.1] at hin
    unfold shV
    cases hc : shH s with
    | true =>
      rw [hc] at hin
      exact lift_ground (fsound (c := bodyOf Try.f31) (fun xs w => Try.call31 xs w) Try.func31 rfl (F_ret hE_strings_TrimPrefix mixed rfl rfl hin)) rfl rfl
    | false =>
      rw [hc] at hin
      exact lift_ground (fsound (c := bodyOf Try.f31) (fun xs w => Try.call31 xs w) Try.func31 rfl
        (Goes.gives (F_head (f := Try.f31) (c := bodyOf Try.f31) (cuts := shC) (ns := []) (top := 99) hE_strings_TrimPrefix mixed rfl rfl hin) (sh_loop (tp s) (Nat.le_of_ble_eq_true hb.2) (tp s).size 0 (by omega)))) rfl rfl
  · cases h
def L_shaped : List (FuncId × Spec) := (31, e_shaped) :: L_strings_TrimPrefix
theorem hE_shaped : ESound Try.prog (envOf L_shaped) := env_cons ok_shaped hE_strings_TrimPrefix
-- digits.Read
def rdC : List Cut := [(2, [4, 5, 17, 18, 19], [0], 1)]
def rdTm (k : Nat) (mi : Bool) (n i : Int) : List AV := [.unk, .unk, .unk, .unk, vb mi, vi n] ++ List.replicate 11 .unk ++ [.sl true 0 1 0 1 k none, vi (Int.ofNat k), vi i] ++ List.replicate 22 .unk
def rdM (z : List Int) : MS := ⟨[(0, some ⟨false, false, .col (.ints .u8 z)⟩)], 1⟩
def dgA (z : Int) : Int := IntKind.i64.wrap (IntKind.u8.wrap (z - 48))
def rdO (z : List Int) (k : Nat) (i : Int) : Bool := bif decide (0 ≤ i) then bif decide (i.toNat < k) then bif decide (i.toNat < z.length) then true else false else false else false
def over (n z : Int) : Bool := decide (n < IntKind.i64.wrap ((IntKind.i64.wrap (-9223372036854775808 + dgA z)).tdiv 10))
def next10 (n z : Int) : Int := IntKind.i64.wrap (IntKind.i64.wrap (n * 10) - dgA z)
def endA (mi : Bool) (n : Int) : AV := bif mi then .tup [vi n, vi 0] else bif n == -9223372036854775808 then .tup [vi 0, vi 2] else .tup [vi (IntKind.i64.wrap (0 - n)), vi 0]
theorem rd_in (s : ByteArray) : F_ Try.prog L_shaped Try.f9 rdC [] 99 [vs s] noMem =
    bif !shV s then some (Fin_.ret (.tup [vi 0, vi 5]) ⟨[], 99⟩ (bif shK s then bif Nat.ble (tp s).size 9223372036854775807 then true else false else false))
    else some (Fin_.head (hd Try.f9 0) (rdTm (tp s).size (byteAt s 0 == 45) 0 0) (rdM (bytesOf (tp s))) (bif shK s then bif Nat.ble (tp s).size 9223372036854775807 then bif decide (0 < s.size) then bif c_strings_TrimPrefix s ⟨#[45]⟩ then true else false else false else false else false)) := by kernel_rfl
theorem rd_round (k : Nat) (mi : Bool) (z : List Int) (n i : Int) : H_ Try.prog L_shaped Try.f9 rdC [] 99 (hd Try.f9 0) (rdTm k mi n i) (rdM z) =
    bif decide (i < Int.ofNat k) then bif over n (z.getD i.toNat 0) then some (Fin_.ret (.tup [vi 0, vi 2]) ⟨[], 99⟩ (rdO z k i))
      else some (Fin_.head (hd Try.f9 0) (rdTm k mi (next10 n (z.getD i.toNat 0)) (IntKind.i64.wrap (i + 1))) (rdM z) (rdO z k i))
    else bif mi then some (Fin_.ret (.tup [vi n, vi 0]) ⟨[], 99⟩ true) else bif n == -9223372036854775808 then some (Fin_.ret (.tup [vi 0, vi 2]) ⟨[], 99⟩ true) else some (Fin_.ret (.tup [vi (IntKind.i64.wrap (0 - n)), vi 0]) ⟨[], 99⟩ true) := by kernel_rfl
/-- What the loop comes to: none: too great. -/
def rdF (z : List Int) : Nat → Nat → Int → Option Int
  | _, 0, n => some n
  | i, j + 1, n => bif over n (z.getD i 0) then none else rdF z (i + 1) j (next10 n (z.getD i 0))
def outA (mi : Bool) : Option Int → Int × Int
  | none => (0, 2)
  | some n => bif mi then (n, 0) else bif n == -9223372036854775808 then (0, 2) else (IntKind.i64.wrap (0 - n), 0)
theorem rdO_ok {z : List Int} {k i : Nat} (h : i < k) (hz : k ≤ z.length) : rdO z k (i : Int) = true := by
  unfold rdO
  rw [Int.toNat_natCast, decide_eq_true (show (0 : Int) ≤ i by omega), decide_eq_true h, decide_eq_true (show i < z.length by omega)]
  rfl
theorem rd_loop (k : Nat) (hk : k ≤ 9223372036854775807) (mi : Bool) (z : List Int) (hz : k ≤ z.length) : ∀ (j i : Nat) (n : Int), i + j = k →
    Gives_ Try.prog Try.f9 0 ⟨hd Try.f9 0, rdTm k mi n i, rdM z⟩ (.tup [vi (outA mi (rdF z i j n)).1, vi (outA mi (rdF z i j n)).2]) ⟨[], 99⟩
  | 0, i, n, hi => by
    refine H_ret (cuts := rdC) (ns := []) (top := 99) hE_shaped mixed rfl ?_
    rw [rd_round, decide_eq_false (show ¬ (i : Int) < Int.ofNat k by simp; omega)]
    unfold rdF outA
    cases mi with
    | true => rfl
    | false =>
      cases hn : (n == -9223372036854775808) with
      | true => simp only [hn]; rfl
      | false => simp only [hn]; rfl
  | j + 1, i, n, hi => by
    have hlt : (i : Int) < Int.ofNat k := by simp; omega
    unfold rdF
    cases ho : over n (z.getD i 0) with
    | true =>
      refine H_ret (cuts := rdC) (ns := []) (top := 99) hE_shaped mixed rfl ?_
      rw [rd_round, decide_eq_true hlt, Int.toNat_natCast, ho, rdO_ok (by omega) hz]
      rfl
    | false =>
      refine Goes.gives (H_head (f := Try.f9) (cuts := rdC) (ns := []) (top := 99) (todo' := hd Try.f9 0) (tm' := rdTm k mi (next10 n (z.getD i 0)) ((i + 1 : Nat) : Int)) (m' := rdM z) hE_shaped mixed rfl ?_) (rd_loop k hk mi z hz j (i + 1) _ (by omega))
      rw [rd_round, decide_eq_true hlt, Int.toNat_natCast, ho, rdO_ok (by omega) hz, show IntKind.i64.wrap ((i : Int) + 1) = ((i + 1 : Nat) : Int) by rw [wk _ (by omega) (by omega)]; omega]
      rfl
end Go.Proofs.Ytpmcflidggofkaa
