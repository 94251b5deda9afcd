/-
  Texts read as numbers: the walk of the document's Read.
-/
import Derived.Test.YtpmcflidggofkaaDR
namespace Go.Proofs.Ytpmcflidggofkaa
open Go Go.RowKit
def r1C : List Cut := [(2, [0, 4, 5], [], 0)]
def r2C : List Cut := [(2, [0, 4, 6, 7], [], 0)]
def r1Tm (s d : ByteArray) (i : Int) : List AV := [vs s, .unk, .unk, .unk, vs d, vi i] ++ List.replicate 73 .unk
def r2Tm (s d : ByteArray) (u i : Int) : List AV := [vs s, .unk, .unk, .unk, vs d, .unk, vu u, vi i] ++ List.replicate 71 .unk
def mnR (s : ByteArray) : Bool := bif decide (0 < Int.ofNat s.size) then byteAt s 0 == 45 else false
def rfH (s d : ByteArray) : Bool := bif Int.ofNat d.size == 0 then true else bif byteAt d 0 == 48 then decide (1 < Int.ofNat s.size) else false
def rk1 (s : ByteArray) : Bool := bif !decide (0 < Int.ofNat s.size) || true then bif !decide (0 < Int.ofNat s.size) || decide (0 < s.size) then bif decide (1 ≤ Int.ofNat s.size) then bif decide (Int.ofNat s.size ≤ Int.ofNat s.size) then
  bif !!(Int.ofNat (s.extract 1 s.size).size == 0) || true then bif !!(Int.ofNat (s.extract 1 s.size).size == 0) || decide (0 < (s.extract 1 s.size).size) then true else false else false else false else false else false else false
def rk2 (s : ByteArray) : Bool := bif !decide (0 < Int.ofNat s.size) || true then bif !decide (0 < Int.ofNat s.size) || decide (0 < s.size) then bif !!(Int.ofNat s.size == 0) || true then bif !!(Int.ofNat s.size == 0) || decide (0 < s.size) then true else false else false else false else false
theorem rf_in (s : ByteArray) : F_ Try.prog [] Try.f10 r1C [] 99 [vs s] noMem =
    bif mnR s then bif rfH s (s.extract 1 s.size) then some (Fin_.ret (.tup [vi 0, vi 5]) ⟨[], 99⟩ (rk1 s)) else some (Fin_.head (hd Try.f10 0) (r1Tm s (s.extract 1 s.size) 0) ⟨[], 0⟩ (rk1 s))
    else bif rfH s s then some (Fin_.ret (.tup [vi 0, vi 5]) ⟨[], 99⟩ (rk2 s)) else some (Fin_.head (hd Try.f10 0) (r1Tm s s 0) ⟨[], 0⟩ (rk2 s)) := by kernel_rfl
theorem rf_one (s d : ByteArray) (i : Int) : H_ Try.prog [] Try.f10 r1C [] 99 (hd Try.f10 0) (r1Tm s d i) ⟨[], 0⟩ =
    bif decide (i < Int.ofNat d.size) then bif badB d i.toNat then some (Fin_.ret (.tup [vi 0, vi 5]) ⟨[], 99⟩ (shO d i)) else some (Fin_.head (hd Try.f10 0) (r1Tm s d (IntKind.i64.wrap (i + 1))) ⟨[], 0⟩ (shO d i))
    else bif decide (19 < Int.ofNat d.size) then some (Fin_.ret (.tup [vi 0, vi 2]) ⟨[], 99⟩ true) else some (Fin_.head (hd Try.f10 1) (r1Tm s d i) ⟨[], 0⟩ true) := by kernel_rfl
theorem rf_mid (s d : ByteArray) (i : Int) : H_ Try.prog [] Try.f10 r2C [] 99 (hd Try.f10 0) (r1Tm s d i) ⟨[], 0⟩ =
    bif decide (i < Int.ofNat d.size) then bif badB d i.toNat then some (Fin_.ret (.tup [vi 0, vi 5]) ⟨[], 99⟩ (shO d i)) else some (Fin_.head (hd Try.f10 0) ([vs s, .unk, .unk, .unk, vs d] ++ List.replicate 74 .unk) ⟨[], 0⟩ (shO d i))
    else bif decide (19 < Int.ofNat d.size) then some (Fin_.ret (.tup [vi 0, vi 2]) ⟨[], 99⟩ true) else some (Fin_.head (hd Try.f10 1) (r2Tm s d 0 0) ⟨[], 0⟩ true) := by kernel_rfl
def nextU (u b : Int) : Int := IntKind.u64.wrap (IntKind.u64.wrap (IntKind.u64.wrap (u * 10) + IntKind.u64.wrap b) - 48)
def inO (d : ByteArray) (i : Int) : Bool := bif decide (0 ≤ i) then bif decide (i.toNat < d.size) then true else false else false
theorem rf_two (s d : ByteArray) (u i : Int) : H_ Try.prog [] Try.f10 r2C [] 99 (hd Try.f10 1) (r2Tm s d u i) ⟨[], 0⟩ =
    bif decide (i < Int.ofNat d.size) then some (Fin_.head (hd Try.f10 1) (r2Tm s d (nextU u (byteAt d i.toNat)) (IntKind.i64.wrap (i + 1))) ⟨[], 0⟩ (inO d i))
    else bif Int.ofNat d.size == Int.ofNat s.size then
      bif decide (9223372036854775807 < u) then some (Fin_.ret (.tup [vi 0, vi 2]) ⟨[], 99⟩ true) else some (Fin_.ret (.tup [vi (IntKind.i64.wrap u), vi 0]) ⟨[], 99⟩ true)
    else bif decide (9223372036854775808 < u) then some (Fin_.ret (.tup [vi 0, vi 2]) ⟨[], 99⟩ true) else some (Fin_.ret (.tup [vi (IntKind.i64.wrap (IntKind.u64.wrap (0 - u))), vi 0]) ⟨[], 99⟩ true) := by kernel_rfl
def numU (d : ByteArray) : Nat → Nat → Int → Int
  | _, 0, u => u
  | i, j + 1, u => numU d (i + 1) j (nextU u (byteAt d i))
def outU (s d : ByteArray) (u : Int) : Int × Int := bif Int.ofNat d.size == Int.ofNat s.size then bif decide (9223372036854775807 < u) then (0, 2) else (IntKind.i64.wrap u, 0) else bif decide (9223372036854775808 < u) then (0, 2) else (IntKind.i64.wrap (IntKind.u64.wrap (0 - u)), 0)
theorem inO_ok {d : ByteArray} {i : Nat} (h : i < d.size) : inO d (i : Int) = true := by
  unfold inO
  rw [Int.toNat_natCast, decide_eq_true (show (0 : Int) ≤ i by omega), decide_eq_true h]
  rfl
theorem rf_loop2 (s d : ByteArray) (hs : d.size ≤ 9223372036854775807) : ∀ (j i : Nat) (u : Int), i + j = d.size →
    Gives_ Try.prog Try.f10 0 ⟨hd Try.f10 1, r2Tm s d u i, ⟨[], 0⟩⟩ (.tup [vi (outU s d (numU d i j u)).1, vi (outU s d (numU d i j u)).2]) ⟨[], 99⟩
  | 0, i, u, hi => by
    refine H_ret (cuts := r2C) (ns := []) (top := 99) env_nil mixed rfl ?_
    rw [rf_two, decide_eq_false (show ¬ (i : Int) < Int.ofNat d.size by simp; omega)]
    unfold numU outU
    cases (Int.ofNat d.size == Int.ofNat s.size) with
    | true => cases decide (9223372036854775807 < u) <;> rfl
    | false => cases decide (9223372036854775808 < u) <;> rfl
  | j + 1, i, u, hi => by
    refine Goes.gives (H_head (f := Try.f10) (cuts := r2C) (ns := []) (top := 99) (todo' := hd Try.f10 1) (tm' := r2Tm s d (nextU u (byteAt d i)) ((i + 1 : Nat) : Int)) (m' := ⟨[], 0⟩) env_nil mixed rfl ?_) (rf_loop2 s d hs j (i + 1) _ (by omega))
    rw [rf_two, decide_eq_true (show (i : Int) < Int.ofNat d.size by simp; omega), Int.toNat_natCast, inO_ok (by omega), show IntKind.i64.wrap ((i : Int) + 1) = ((i + 1 : Nat) : Int) by rw [wk _ (by omega) (by omega)]; omega]
    rfl
/-- What the document says of a text without its sign. -/
def rfV (s d : ByteArray) (b : Bool) : Int × Int := bif b then bif decide (19 < Int.ofNat d.size) then (0, 2) else outU s d (numU d 0 d.size 0) else (0, 5)
theorem rf_loop1 (s d : ByteArray) (hs : d.size ≤ 9223372036854775807) : ∀ (j i : Nat), i + j = d.size →
    Gives_ Try.prog Try.f10 0 ⟨hd Try.f10 0, r1Tm s d i, ⟨[], 0⟩⟩ (.tup [vi (rfV s d (digs d i j)).1, vi (rfV s d (digs d i j)).2]) ⟨[], 99⟩
  | 0, i, hi => by
    unfold digs rfV
    simp only [cond_true]
    cases h19 : decide (19 < Int.ofNat d.size) with
    | true =>
      refine H_ret (cuts := r1C) (ns := []) (top := 99) env_nil mixed rfl ?_
      rw [rf_one, decide_eq_false (show ¬ (i : Int) < Int.ofNat d.size by simp; omega), h19]
      rfl
    | false =>
      refine Goes.gives (H_head (f := Try.f10) (cuts := r2C) (ns := []) (top := 99) (todo' := hd Try.f10 1) (tm' := r2Tm s d 0 ((0 : Nat) : Int)) (m' := ⟨[], 0⟩) env_nil mixed rfl ?_) (rf_loop2 s d hs d.size 0 0 (by omega))
      rw [rf_mid, decide_eq_false (show ¬ (i : Int) < Int.ofNat d.size by simp; omega), h19]
      rfl
  | j + 1, i, hi => by
    have hlt : (i : Int) < Int.ofNat d.size := by simp; omega
    unfold digs
    cases hb : badB d i with
    | true =>
      refine H_ret (cuts := r1C) (ns := []) (top := 99) env_nil mixed rfl ?_
      rw [rf_one, decide_eq_true hlt, Int.toNat_natCast, hb, shO_ok (by omega)]
      rfl
    | false =>
      refine Goes.gives (H_head (f := Try.f10) (cuts := r1C) (ns := []) (top := 99) (todo' := hd Try.f10 0) (tm' := r1Tm s d ((i + 1 : Nat) : Int)) (m' := ⟨[], 0⟩) env_nil mixed rfl ?_) (rf_loop1 s d hs j (i + 1) (by omega))
      rw [rf_one, decide_eq_true hlt, Int.toNat_natCast, hb, shO_ok (by omega), show IntKind.i64.wrap ((i : Int) + 1) = ((i + 1 : Nat) : Int) by rw [wk _ (by omega) (by omega)]; omega]
      rfl
end Go.Proofs.Ytpmcflidggofkaa
