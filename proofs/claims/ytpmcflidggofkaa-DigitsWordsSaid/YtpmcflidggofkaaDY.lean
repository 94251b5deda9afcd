/-
  Words as figures: the walks of both ReadHex and of the document's Hex.
-/
import Derived.Test.YtpmcflidggofkaaDH
import Derived.Test.YtpmcflidggofkaaDec
namespace Go.Proofs.Ytpmcflidggofkaa
open Go Go.RowKit
abbrev figs : ByteArray := ⟨#[48, 49, 50, 51, 52, 53, 54, 55, 56, 57, 97, 98, 99, 100, 101, 102]⟩
def atO (s : ByteArray) (i : Int) : Bool := bif decide (0 ≤ i) then bif decide (i.toNat < s.size) then true else false else false
theorem atO_ok {s : ByteArray} {i : Nat} (h : i < s.size) : atO s (i : Int) = true := by
  unfold atO
  rw [Int.toNat_natCast, decide_eq_true (show (0 : Int) ≤ i by omega), decide_eq_true h]
  rfl
theorem wk1 {i : Nat} (h : i < 100) : IntKind.i64.wrap ((i : Int) + 1) = ((i + 1 : Nat) : Int) := by rw [IntWalk.i64_in _ (by omega)]; omega
-- digits.ReadHex
def rhC : List Cut := [(1, [0, 4, 11, 12], [], 0), (2, [0, 4, 11, 12], [], 0), (3, [0, 4, 11, 12], [], 0), (4, [0, 4, 11, 12], [], 0)]
def rhTm (s : ByteArray) (w n i : Int) : List AV := [vs s, .unk, .unk, .unk, vu w] ++ List.replicate 6 .unk ++ [vi n, vi i] ++ List.replicate 15 .unk
def rhI (s : ByteArray) (i : Nat) : Int := strings_IndexByte_0 figs (byteAt s i)
def rhW (w d : Int) : Int := bits .or .u64 (IntKind.u64.wrap (w * 16)) (IntKind.u64.wrap d)
theorem rh_in (s : ByteArray) : F_ Try.prog L_digits_Hex Try.f13 rhC [] 99 [vs s] noMem =
    bif Int.ofNat s.size != 16 then some (Fin_.ret (.tup [vu 0, vi 5]) ⟨[], 99⟩ true) else some (Fin_.head (hd Try.f13 0) (rhTm s 0 (Int.ofNat s.size) 0) ⟨[], 0⟩ true) := by kernel_rfl
theorem rh_round (s : ByteArray) (w n i : Int) : H_ Try.prog L_digits_Hex Try.f13 rhC [] 99 (hd Try.f13 0) (rhTm s w n i) ⟨[], 0⟩ =
    bif decide (i < n) then bif decide (rhI s i.toNat < 0) then some (Fin_.ret (.tup [vu 0, vi 5]) ⟨[], 99⟩ (atO s i)) else some (Fin_.head (hd Try.f13 0) (rhTm s (rhW w (rhI s i.toNat)) n (IntKind.i64.wrap (i + 1))) ⟨[], 0⟩ (atO s i))
    else some (Fin_.ret (.tup [vu w, vi 0]) ⟨[], 99⟩ true) := by kernel_rfl
def rhF (s : ByteArray) : Nat → Nat → Int → Int × Int
  | _, 0, w => (w, 0)
  | i, j + 1, w => bif decide (rhI s i < 0) then (0, 5) else rhF s (i + 1) j (rhW w (rhI s i))
theorem rh_loop (s : ByteArray) (hs : s.size = 16) : ∀ (j i : Nat) (w : Int), i + j = 16 →
    Gives_ Try.prog Try.f13 0 ⟨hd Try.f13 0, rhTm s w 16 i, ⟨[], 0⟩⟩ (.tup [vu (rhF s i j w).1, vi (rhF s i j w).2]) ⟨[], 99⟩
  | 0, i, w, hi => by
    refine H_ret (cuts := rhC) (ns := []) (top := 99) hE_digits_Hex mixed rfl ?_
    rw [rh_round, decide_eq_false (show ¬ (i : Int) < 16 by omega)]
    rfl
  | j + 1, i, w, hi => by
    have hlt : (i : Int) < 16 := by omega
    simp only [rhF]
    cases hb : decide (rhI s i < 0) with
    | true =>
      refine H_ret (cuts := rhC) (ns := []) (top := 99) hE_digits_Hex mixed rfl ?_
      rw [rh_round, decide_eq_true hlt, Int.toNat_natCast, hb, atO_ok (by omega)]
      rfl
    | false =>
      refine Goes.gives (H_head (f := Try.f13) (cuts := rhC) (ns := []) (top := 99) (todo' := hd Try.f13 0) (tm' := rhTm s (rhW w (rhI s i)) 16 ((i + 1 : Nat) : Int)) (m' := ⟨[], 0⟩) hE_digits_Hex mixed rfl ?_) (rh_loop s hs j (i + 1) _ (by omega))
      rw [rh_round, decide_eq_true hlt, Int.toNat_natCast, hb, atO_ok (by omega), wk1 (by omega)]
      rfl
def rhV (s : ByteArray) : Int × Int := bif Int.ofNat s.size != 16 then (0, 5) else rhF s 0 16 0
def rhV0 (s : ByteArray) : Int := (rhV s).1
def rhV1 (s : ByteArray) : Int := (rhV s).2
def e_rh : Spec := fun _ args => match args with
  | [.val (.string s)] => some (.tup [vu (rhV0 s), vi (rhV1 s)], none, [])
  | _ => none
theorem ok_rh : SpecOk Try.prog 13 e_rh := fun m args v mo bs h hb => by
  unfold e_rh at h
  split at h
  · rename_i s
    cases h
    have hin := rh_in s
    unfold rhV0 rhV1 rhV
    cases hc : Int.ofNat s.size != 16 with
    | true =>
      rw [hc] at hin
      exact lift_ground (fsound (c := bodyOf Try.f13) (fun xs w => Try.call13 xs w) Try.func13 rfl (F_ret hE_digits_Hex mixed rfl rfl hin)) rfl rfl
    | false =>
      have hs : s.size = 16 := by have h0 := hc; simp at h0; omega
      rw [hc, hs] at hin
      exact lift_ground (fsound (c := bodyOf Try.f13) (fun xs w => Try.call13 xs w) Try.func13 rfl
        (Goes.gives (F_head (f := Try.f13) (c := bodyOf Try.f13) (cuts := rhC) (ns := []) (top := 99) hE_digits_Hex mixed rfl rfl hin) (rh_loop s hs 16 0 0 (by omega)))) rfl rfl
  · cases h
def L_rh : List (FuncId × Spec) := (13, e_rh) :: L_digits_Hex
theorem hE_rh : ESound Try.prog (envOf L_rh) := env_cons ok_rh hE_digits_Hex
-- the document's ReadHex
def rrC : List Cut := [(1, [0, 4, 5], [], 0), (2, [0, 4, 5], [], 0), (3, [0, 4, 5], [], 0), (4, [0, 4, 5], [], 0)]
def rrTm (s : ByteArray) (w i : Int) : List AV := [vs s, .unk, .unk, .unk, vu w, vi i] ++ List.replicate 38 .unk
def rrA (s : ByteArray) (i : Nat) : Bool := bif decide (48 ≤ byteAt s i) then decide (byteAt s i ≤ 57) else false
def rrB (s : ByteArray) (i : Nat) : Bool := bif decide (97 ≤ byteAt s i) then decide (byteAt s i ≤ 102) else false
def rrW (w c k : Int) : Int := IntKind.u64.wrap (IntKind.u64.wrap (IntKind.u64.wrap (w * 16) + IntKind.u64.wrap c) - k)
theorem rr_in (s : ByteArray) : F_ Try.prog L_rh Try.f14 rrC [] 99 [vs s] noMem =
    bif Int.ofNat s.size != 16 then some (Fin_.ret (.tup [vu 0, vb false]) ⟨[], 99⟩ true) else some (Fin_.head (hd Try.f14 0) (rrTm s 0 0) ⟨[], 0⟩ true) := by kernel_rfl
theorem rr_round (s : ByteArray) (w i : Int) : H_ Try.prog L_rh Try.f14 rrC [] 99 (hd Try.f14 0) (rrTm s w i) ⟨[], 0⟩ =
    bif decide (i < 16) then bif rrA s i.toNat then some (Fin_.head (hd Try.f14 0) (rrTm s (rrW w (byteAt s i.toNat) 48) (IntKind.i64.wrap (i + 1))) ⟨[], 0⟩ (atO s i))
      else bif rrB s i.toNat then some (Fin_.head (hd Try.f14 0) (rrTm s (rrW w (byteAt s i.toNat) 87) (IntKind.i64.wrap (i + 1))) ⟨[], 0⟩ (atO s i))
      else some (Fin_.ret (.tup [vu 0, vb false]) ⟨[], 99⟩ (atO s i))
    else some (Fin_.ret (.tup [vu w, vb true]) ⟨[], 99⟩ true) := by kernel_rfl
def rrF (s : ByteArray) : Nat → Nat → Int → Int × Bool
  | _, 0, w => (w, true)
  | i, j + 1, w => bif rrA s i then rrF s (i + 1) j (rrW w (byteAt s i) 48) else bif rrB s i then rrF s (i + 1) j (rrW w (byteAt s i) 87) else (0, false)
theorem rr_loop (s : ByteArray) (hs : s.size = 16) : ∀ (j i : Nat) (w : Int), i + j = 16 →
    Gives_ Try.prog Try.f14 0 ⟨hd Try.f14 0, rrTm s w i, ⟨[], 0⟩⟩ (.tup [vu (rrF s i j w).1, vb (rrF s i j w).2]) ⟨[], 99⟩
  | 0, i, w, hi => by
    refine H_ret (cuts := rrC) (ns := []) (top := 99) hE_rh mixed rfl ?_
    rw [rr_round, decide_eq_false (show ¬ (i : Int) < 16 by omega)]
    rfl
  | j + 1, i, w, hi => by
    have hlt : (i : Int) < 16 := by omega
    simp only [rrF]
    cases ha : rrA s i with
    | true =>
      refine Goes.gives (H_head (f := Try.f14) (cuts := rrC) (ns := []) (top := 99) (todo' := hd Try.f14 0) (tm' := rrTm s (rrW w (byteAt s i) 48) ((i + 1 : Nat) : Int)) (m' := ⟨[], 0⟩) hE_rh mixed rfl ?_) (rr_loop s hs j (i + 1) _ (by omega))
      rw [rr_round, decide_eq_true hlt, Int.toNat_natCast, ha, atO_ok (by omega), wk1 (by omega)]
      rfl
    | false =>
      cases hb : rrB s i with
      | true =>
        refine Goes.gives (H_head (f := Try.f14) (cuts := rrC) (ns := []) (top := 99) (todo' := hd Try.f14 0) (tm' := rrTm s (rrW w (byteAt s i) 87) ((i + 1 : Nat) : Int)) (m' := ⟨[], 0⟩) hE_rh mixed rfl ?_) (rr_loop s hs j (i + 1) _ (by omega))
        rw [rr_round, decide_eq_true hlt, Int.toNat_natCast, ha, hb, atO_ok (by omega), wk1 (by omega)]
        rfl
      | false =>
        refine H_ret (cuts := rrC) (ns := []) (top := 99) hE_rh mixed rfl ?_
        rw [rr_round, decide_eq_true hlt, Int.toNat_natCast, ha, hb, atO_ok (by omega)]
        rfl
def rrV (s : ByteArray) : Int × Bool := bif Int.ofNat s.size != 16 then (0, false) else rrF s 0 16 0
def rrV0 (s : ByteArray) : Int := (rrV s).1
def rrV1 (s : ByteArray) : Bool := (rrV s).2
def e_rr : Spec := fun _ args => match args with
  | [.val (.string s)] => some (.tup [vu (rrV0 s), vb (rrV1 s)], none, [])
  | _ => none
theorem ok_rr : SpecOk Try.prog 14 e_rr := fun m args v mo bs h hb => by
  unfold e_rr at h
  split at h
  · rename_i s
    cases h
    have hin := rr_in s
    unfold rrV0 rrV1 rrV
    cases hc : Int.ofNat s.size != 16 with
    | true =>
      rw [hc] at hin
      exact lift_ground (fsound (c := bodyOf Try.f14) (fun xs w => Try.call14 xs w) Try.func14 rfl (F_ret hE_rh mixed rfl rfl hin)) rfl rfl
    | false =>
      have hs : s.size = 16 := by have h0 := hc; simp at h0; omega
      rw [hc] at hin
      exact lift_ground (fsound (c := bodyOf Try.f14) (fun xs w => Try.call14 xs w) Try.func14 rfl
        (Goes.gives (F_head (f := Try.f14) (c := bodyOf Try.f14) (cuts := rrC) (ns := []) (top := 99) hE_rh mixed rfl rfl hin) (rr_loop s hs 16 0 0 (by omega)))) rfl rfl
  · cases h
-- the document's Hex
def hxC : List Cut := [(1, [0, 3, 4], [], 0), (2, [0, 3, 4], [], 0), (3, [0, 3, 4], [], 0), (4, [0, 3, 4], [], 0)]
def hxTm (w : Int) (s : ByteArray) (i : Int) : List AV := [vu w, .unk, .unk, vs s, vi i] ++ List.replicate 23 .unk
def hxG (k w : Int) (s : ByteArray) : ByteArray := catB (strOf [IntKind.u8.wrap (IntKind.u64.wrap (k + w.tmod 16))]) s
def hxO (k w : Int) (s : ByteArray) : Bool := bif Nat.ble (lenB (strOf [IntKind.u8.wrap (IntKind.u64.wrap (k + w.tmod 16))]) + lenB s) 9223372036854775807 then true else false
theorem hx_in (w : Int) : F_ Try.prog L_rh Try.f15 hxC [] 99 [vu w] noMem = some (Fin_.head (hd Try.f15 0) (hxTm w ⟨#[]⟩ 0) ⟨[], 0⟩ true) := by kernel_rfl
theorem hx_round (w : Int) (s : ByteArray) (i : Int) : H_ Try.prog L_rh Try.f15 hxC [] 99 (hd Try.f15 0) (hxTm w s i) ⟨[], 0⟩ =
    bif decide (i < 16) then bif decide (9 < w.tmod 16) then some (Fin_.head (hd Try.f15 0) (hxTm (IntKind.u64.wrap (w.tdiv 16)) (hxG 87 w s) (IntKind.i64.wrap (i + 1))) ⟨[], 0⟩ (hxO 87 w s))
      else some (Fin_.head (hd Try.f15 0) (hxTm (IntKind.u64.wrap (w.tdiv 16)) (hxG 48 w s) (IntKind.i64.wrap (i + 1))) ⟨[], 0⟩ (hxO 48 w s))
    else some (Fin_.ret (vs s) ⟨[], 99⟩ true) := by kernel_rfl
def hxK (w : Int) : Int := bif decide (9 < w.tmod 16) then 87 else 48
def hxF : Nat → Int → ByteArray → ByteArray
  | 0, _, s => s
  | j + 1, w, s => hxF j (IntKind.u64.wrap (w.tdiv 16)) (hxG (hxK w) w s)
theorem hxG_size (k w : Int) (s : ByteArray) : lenB (hxG k w s) = lenB s + 1 := by
  unfold hxG
  rw [lenB_eq, catB_eq, ByteArray.size_append, strOf_size, lenB_eq]
  simp
  omega
theorem hx_loop : ∀ (j i : Nat) (w : Int) (s : ByteArray), i + j = 16 → lenB s = i →
    Gives_ Try.prog Try.f15 0 ⟨hd Try.f15 0, hxTm w s i, ⟨[], 0⟩⟩ (vs (hxF j w s)) ⟨[], 99⟩
  | 0, i, w, s, hi, _ => by
    refine H_ret (cuts := hxC) (ns := []) (top := 99) hE_rh mixed rfl ?_
    rw [hx_round, decide_eq_false (show ¬ (i : Int) < 16 by omega)]
    rfl
  | j + 1, i, w, s, hi, hs => by
    have hlt : (i : Int) < 16 := by omega
    have hO : ∀ k, hxO k w s = true := fun k => by
      unfold hxO
      rw [Nat.ble_eq_true_of_le (by rw [lenB_eq, strOf_size, hs]; simp; omega)]
      rfl
    refine Goes.gives (H_head (f := Try.f15) (cuts := hxC) (ns := []) (top := 99) (todo' := hd Try.f15 0) (tm' := hxTm (IntKind.u64.wrap (w.tdiv 16)) (hxG (hxK w) w s) ((i + 1 : Nat) : Int)) (m' := ⟨[], 0⟩) hE_rh mixed rfl ?_) (hx_loop j (i + 1) _ _ (by omega) (by rw [hxG_size, hs]))
    rw [hx_round, decide_eq_true hlt, hO, hO, wk1 (by omega)]
    unfold hxK
    cases decide (9 < w.tmod 16) <;> rfl
def e_hx : Spec := fun _ args => match args with
  | [.val (.int .u64 w)] => some (vs (hxF 16 w ⟨#[]⟩), none, [])
  | _ => none
theorem ok_hx : SpecOk Try.prog 15 e_hx := fun m args v mo bs h hb => by
  unfold e_hx at h
  split at h
  · rename_i w
    cases h
    exact lift_ground (fsound (c := bodyOf Try.f15) (fun xs w => Try.call15 xs w) Try.func15 rfl
        (Goes.gives (F_head (f := Try.f15) (c := bodyOf Try.f15) (cuts := hxC) (ns := []) (top := 99) hE_rh mixed rfl rfl (hx_in w)) (hx_loop 16 0 w ⟨#[]⟩ (by omega) rfl))) rfl rfl
  · cases h
def L_hx : List (FuncId × Spec) := (15, e_hx) :: (14, e_rr) :: L_rh
theorem hE_hx : ESound Try.prog (envOf L_hx) := env_cons ok_hx (env_cons ok_rr hE_rh)
end Go.Proofs.Ytpmcflidggofkaa
