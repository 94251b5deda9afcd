/-
  wide.Parse and the document's Parse: what they come to; and texts read back.
-/
import Derived.Test.YtanfjgkohhlcoaaVj
namespace Go.Proofs.Ytanfjgkohhlcoaa
open Go Go.RowKit
def badB (d : ByteArray) (i : Nat) : Bool := bif decide (byteAt d i < 48) then true else decide (57 < byteAt d i)
def shO (d : ByteArray) (i : Int) : Bool := bif decide (0 ≤ i) then bif decide (i.toNat < d.size) then bif !!decide (byteAt d i.toNat < 48) || decide (0 ≤ i) then bif !!decide (byteAt d i.toNat < 48) || decide (i.toNat < d.size) then true else false else false else false else false
theorem shO_ok {d : ByteArray} {i : Nat} (h : i < d.size) : shO d (i : Int) = true := by
  unfold shO
  rw [Int.toNat_natCast, decide_eq_true (show (0 : Int) ≤ i by omega), decide_eq_true h]
  simp
/-- Are all digits? -/
def digs (d : ByteArray) : Nat → Nat → Bool
  | _, 0 => true
  | i, j + 1 => bif badB d i then false else digs d (i + 1) j
/-- The number; none: too great. -/
def pN (d : ByteArray) : Nat → Nat → Int → Option Int
  | _, 0, n => some n
  | i, j + 1, n => bif decide (n * 10 + (byteAt d i - 48) < 340282366920938463463374607431768211456) then pN d (i + 1) j (n * 10 + (byteAt d i - 48)) else none
def hdB (s : ByteArray) : Bool := bif Int.ofNat s.size == 0 then true else bif decide (1 < Int.ofNat s.size) then byteAt s 0 == 48 else false
def pA : Option Int → Int × Int × Int
  | none => (0, 0, 2)
  | some n => (satH n, satL n, 0)
def pR (s : ByteArray) : Int × Int × Int := bif hdB s then (0, 0, 5) else bif digs s 0 s.size then pA (pN s 0 s.size 0) else (0, 0, 5)
def pR0 (s : ByteArray) : Int := (pR s).1
def pR1 (s : ByteArray) : Int := (pR s).2.1
def pR2 (s : ByteArray) : Int := (pR s).2.2
abbrev p3 (x : Int × Int × Int) : AV := .tup [.agg [vu x.1, vu x.2.1], vi x.2.2]
def vpM0 : MS := ⟨[(0, some ⟨true, false, .cells [vu 0, vu 0]⟩)], 1⟩
def vpM (a b : Int) : MS := ⟨[(0, some ⟨true, false, .cells [vu 0, vu 0]⟩), (1, some ⟨true, false, .cells [vu a, vu b]⟩)], 2⟩
def vpF (a b z : Int) : Bool := bif !satF (wv a b * 10) then true else !satF (wv (satH (wv a b * 10)) (satL (wv a b * 10)) + wv 0 z)
def vpS (a b z : Int) : Int := wv (satH (wv a b * 10)) (satL (wv a b * 10)) + wv 0 z
def vpO (s : ByteArray) (a b z i : Int) : Bool := bif inU a then bif inU b then bif decide (0 ≤ i) then bif decide (i.toNat < s.size) then bif inU (satH (wv a b * 10)) then bif inU (satL (wv a b * 10)) then bif inU z then true else false else false else false else false else false else false else false
theorem vp_key {n z : Int} (h0 : 0 ≤ n) (h1 : n < 340282366920938463463374607431768211456) (hz : 0 ≤ z) (hz' : z ≤ 9) : vpF (satH n) (satL n) z = !decide (n * 10 + z < 340282366920938463463374607431768211456) ∧ (n * 10 + z < 340282366920938463463374607431768211456 → vpS (satH n) (satL n) z = n * 10 + z) := by
  have e : wv (satH n) (satL n) = n := wv_sat h0 (satF_t h1)
  have ez : wv 0 z = z := by unfold wv; omega
  unfold vpF vpS
  rw [e, ez]
  by_cases h : n * 10 < 340282366920938463463374607431768211456
  · have e2 : wv (satH (n * 10)) (satL (n * 10)) = n * 10 := wv_sat (by omega) (satF_t h)
    rw [e2, satF_t h]
    exact ⟨rfl, fun _ => rfl⟩
  · have e3 : satF (n * 10) = false := decide_eq_false h
    rw [e3, decide_eq_false (show ¬ n * 10 + z < 340282366920938463463374607431768211456 by omega)]
    exact ⟨rfl, fun h' => by omega⟩
theorem vpO_ok {s : ByteArray} {n z : Int} {i : Nat} (h0 : 0 ≤ n) (hz : 0 ≤ z) (hz' : z ≤ 9) (hi : i < s.size) (h1 : n < 340282366920938463463374607431768211456) : vpO s (satH n) (satL n) z (i : Int) = true := by
  have e : wv (satH n) (satL n) = n := wv_sat h0 (satF_t h1)
  obtain ⟨u1, u2⟩ := sat_isU h0
  obtain ⟨u3, u4⟩ := sat_isU (s := n * 10) (by omega)
  unfold vpO
  rw [e, inU_of u1, inU_of u2, inU_of u3, inU_of u4, inU_of (show isU z by unfold isU; omega), Int.toNat_natCast, decide_eq_true (show (0 : Int) ≤ i by omega), decide_eq_true hi]
  rfl
theorem badB_in {d : ByteArray} {i : Nat} (h : badB d i = false) : 48 ≤ byteAt d i ∧ byteAt d i ≤ 57 := by
  unfold badB at h
  cases h1 : decide (byteAt d i < 48) with
  | true => rw [h1] at h; cases h
  | false =>
    rw [h1] at h
    have h2 := of_decide_eq_false h1
    have h3 := of_decide_eq_false h
    omega
theorem digs_all (d : ByteArray) : ∀ (j i : Nat), digs d i j = true → ∀ q, i ≤ q → q < i + j → badB d q = false
  | 0, i, _, q, h1, h2 => by omega
  | j + 1, i, h, q, h1, h2 => by
    unfold digs at h
    cases hb : badB d i with
    | true => rw [hb] at h; cases h
    | false =>
      rw [hb] at h
      by_cases e : q = i
      · subst e; exact hb
      · exact digs_all d j (i + 1) h q (by omega) (by omega)
-- wide.Parse
def w1C : List Cut := [(2, [0, 2, 25, 26], [0], 1)]
def w2C : List Cut := [(2, [0, 2, 5, 42, 43], [0, 1], 2)]
def w1Tm (s : ByteArray) (n i : Int) : List AV := [vs s, .unk, .ptr 0 1 0 0] ++ List.replicate 22 .unk ++ [vi n, vi i] ++ List.replicate 45 .unk
def w2Tm (s : ByteArray) (n i : Int) : List AV := [vs s, .unk, .ptr 0 1 0 0, .unk, .unk, .ptr 1 1 0 0] ++ List.replicate 36 .unk ++ [vi n, vi i] ++ List.replicate 28 .unk
def hdW (s : ByteArray) : Bool := bif s.toList == [] then true else bif decide (1 < Int.ofNat s.size) then byteAt s 0 == 48 else false
def hkW (s : ByteArray) : Bool := bif !(!s.toList == [] && decide (1 < Int.ofNat s.size)) || true then bif !(!s.toList == [] && decide (1 < Int.ofNat s.size)) || decide (0 < s.size) then true else false else false
theorem w_in (s : ByteArray) : F_ Try.prog L_w Try.f23 w1C [] 99 [vs s] noMem = bif hdW s then some (Fin_.ret (p3 (0, 0, 5)) ⟨[], 99⟩ (hkW s)) else some (Fin_.head (hd Try.f23 0) (w1Tm s (Int.ofNat s.size) 0) vpM0 (hkW s)) := by kernel_rfl
theorem w_one (s : ByteArray) (n i : Int) : H_ Try.prog L_w Try.f23 w1C [] 99 (hd Try.f23 0) (w1Tm s n i) vpM0 =
    bif decide (i < n) then bif badB s i.toNat then some (Fin_.ret (p3 (0, 0, 5)) ⟨[], 99⟩ (shO s i)) else some (Fin_.head (hd Try.f23 0) (w1Tm s n (IntKind.i64.wrap (i + 1))) vpM0 (shO s i))
    else some (Fin_.head (hd Try.f23 1) (w1Tm s n i) vpM0 true) := by kernel_rfl
theorem w_mid (s : ByteArray) (n i : Int) : H_ Try.prog L_w Try.f23 w2C [] 99 (hd Try.f23 0) (w1Tm s n i) vpM0 =
    bif decide (i < n) then bif badB s i.toNat then some (Fin_.ret (p3 (0, 0, 5)) ⟨[], 99⟩ (shO s i)) else some (Fin_.head (hd Try.f23 0) ([vs s, .unk, .ptr 0 1 0 0] ++ List.replicate 69 .unk) ⟨[(0, some ⟨true, false, .cells [vu 0, vu 0]⟩), (1, none)], 2⟩ (shO s i))
    else some (Fin_.head (hd Try.f23 1) (w2Tm s (Int.ofNat s.size) 0) (vpM 0 0) true) := by kernel_rfl
def wz (s : ByteArray) (i : Nat) : Int := IntKind.u64.wrap (IntKind.u8.wrap (byteAt s i - 48))
theorem w_two (s : ByteArray) (a b n i : Int) : H_ Try.prog L_w Try.f23 w2C [] 99 (hd Try.f23 1) (w2Tm s n i) (vpM a b) =
    bif decide (i < n) then bif vpF a b (wz s i.toNat) then some (Fin_.ret (p3 (0, 0, 2)) ⟨[], 99⟩ (vpO s a b (wz s i.toNat) i))
      else some (Fin_.head (hd Try.f23 1) (w2Tm s n (IntKind.i64.wrap (i + 1))) (vpM (satH (vpS a b (wz s i.toNat))) (satL (vpS a b (wz s i.toNat)))) (vpO s a b (wz s i.toNat) i))
    else some (Fin_.ret (p3 (a, b, 0)) ⟨[], 99⟩ true) := by kernel_rfl
-- the document's
def r1C : List Cut := [(2, [0, 2, 4], [0], 1)]
def r2C : List Cut := [(2, [0, 2, 5, 6], [0, 1], 2)]
def r1Tm (s : ByteArray) (i : Int) : List AV := [vs s, .unk, .ptr 0 1 0 0, .unk, vi i] ++ List.replicate 68 .unk
def r2Tm (s : ByteArray) (i : Int) : List AV := [vs s, .unk, .ptr 0 1 0 0, .unk, .unk, .ptr 1 1 0 0, vi i] ++ List.replicate 66 .unk
def hkR (s : ByteArray) : Bool := bif !(!(Int.ofNat s.size == 0) && decide (1 < Int.ofNat s.size)) || true then bif !(!(Int.ofNat s.size == 0) && decide (1 < Int.ofNat s.size)) || decide (0 < s.size) then true else false else false
theorem r_in (s : ByteArray) : F_ Try.prog L_w Try.f24 r1C [] 99 [vs s] noMem = bif hdB s then some (Fin_.ret (p3 (0, 0, 5)) ⟨[], 99⟩ (hkR s)) else some (Fin_.head (hd Try.f24 0) (r1Tm s 0) vpM0 (hkR s)) := by kernel_rfl
theorem r_one (s : ByteArray) (i : Int) : H_ Try.prog L_w Try.f24 r1C [] 99 (hd Try.f24 0) (r1Tm s i) vpM0 =
    bif decide (i < Int.ofNat s.size) then bif badB s i.toNat then some (Fin_.ret (p3 (0, 0, 5)) ⟨[], 99⟩ (shO s i)) else some (Fin_.head (hd Try.f24 0) (r1Tm s (IntKind.i64.wrap (i + 1))) vpM0 (shO s i))
    else some (Fin_.head (hd Try.f24 1) (r1Tm s i) vpM0 true) := by kernel_rfl
theorem r_mid (s : ByteArray) (i : Int) : H_ Try.prog L_w Try.f24 r2C [] 99 (hd Try.f24 0) (r1Tm s i) vpM0 =
    bif decide (i < Int.ofNat s.size) then bif badB s i.toNat then some (Fin_.ret (p3 (0, 0, 5)) ⟨[], 99⟩ (shO s i)) else some (Fin_.head (hd Try.f24 0) ([vs s, .unk, .ptr 0 1 0 0] ++ List.replicate 70 .unk) ⟨[(0, some ⟨true, false, .cells [vu 0, vu 0]⟩), (1, none)], 2⟩ (shO s i))
    else some (Fin_.head (hd Try.f24 1) (r2Tm s 0) (vpM 0 0) true) := by kernel_rfl
def rz (s : ByteArray) (i : Nat) : Int := IntKind.u64.wrap (IntKind.u64.wrap (byteAt s i) - 48)
theorem r_two (s : ByteArray) (a b i : Int) : H_ Try.prog L_w Try.f24 r2C [] 99 (hd Try.f24 1) (r2Tm s i) (vpM a b) =
    bif decide (i < Int.ofNat s.size) then bif vpF a b (rz s i.toNat) then some (Fin_.ret (p3 (0, 0, 2)) ⟨[], 99⟩ (vpO s a b (rz s i.toNat) i))
      else some (Fin_.head (hd Try.f24 1) (r2Tm s (IntKind.i64.wrap (i + 1))) (vpM (satH (vpS a b (rz s i.toNat))) (satL (vpS a b (rz s i.toNat)))) (vpO s a b (rz s i.toNat) i))
    else some (Fin_.ret (p3 (a, b, 0)) ⟨[], 99⟩ true) := by kernel_rfl
theorem z_eq {s : ByteArray} {i : Nat} (h : badB s i = false) : wz s i = byteAt s i - 48 ∧ rz s i = byteAt s i - 48 := by
  have := badB_in h
  unfold wz rz
  rw [wk8 _ (by omega) (by omega), IntWalk.u64_in _ (by omega), IntWalk.u64_in (byteAt s i) (by omega), IntWalk.u64_in _ (by omega)]
  exact ⟨rfl, rfl⟩
theorem w_loop2 (s : ByteArray) (hs : s.size ≤ 1000) (hg : digs s 0 s.size = true) : ∀ (j i : Nat) (n : Int), i + j = s.size → 0 ≤ n → n < 340282366920938463463374607431768211456 →
    Gives_ Try.prog Try.f23 0 ⟨hd Try.f23 1, w2Tm s (Int.ofNat s.size) i, vpM (satH n) (satL n)⟩ (p3 (pA (pN s i j n))) ⟨[], 99⟩
  | 0, i, n, hi, h0, h1 => by
    refine H_ret (cuts := w2C) (ns := []) (top := 99) hE_w mixed rfl ?_
    rw [w_two, decide_eq_false (show ¬ (i : Int) < Int.ofNat s.size by simp; omega)]
    rfl
  | j + 1, i, n, hi, h0, h1 => by
    have hb := digs_all s _ _ hg i (by omega) (by omega)
    have hd' := badB_in hb
    obtain ⟨z1, z2⟩ := z_eq hb
    have hlt : (i : Int) < Int.ofNat s.size := by simp; omega
    obtain ⟨k1, k2⟩ := vp_key h0 h1 (z := byteAt s i - 48) (by omega) (by omega)
    have ko := vpO_ok (s := s) (n := n) (z := byteAt s i - 48) (i := i) h0 (by omega) (by omega) (by omega) h1
    unfold pN
    by_cases hf : n * 10 + (byteAt s i - 48) < 340282366920938463463374607431768211456
    · rw [decide_eq_true hf]
      refine Goes.gives (H_head (f := Try.f23) (cuts := w2C) (ns := []) (top := 99) (todo' := hd Try.f23 1) (tm' := w2Tm s (Int.ofNat s.size) ((i + 1 : Nat) : Int)) (m' := vpM (satH (n * 10 + (byteAt s i - 48))) (satL (n * 10 + (byteAt s i - 48)))) hE_w mixed rfl ?_) (w_loop2 s hs hg j (i + 1) _ (by omega) (by omega) hf)
      rw [w_two, decide_eq_true hlt, Int.toNat_natCast, z1, k1, k2 hf, decide_eq_true hf, ko, show IntKind.i64.wrap ((i : Int) + 1) = ((i + 1 : Nat) : Int) by rw [wk _ (by omega) (by omega)]; omega]
      rfl
    · rw [decide_eq_false hf]
      refine H_ret (cuts := w2C) (ns := []) (top := 99) hE_w mixed rfl ?_
      rw [w_two, decide_eq_true hlt, Int.toNat_natCast, z1, k1, decide_eq_false hf, ko]
      rfl
theorem w_loop1 (s : ByteArray) (hs : s.size ≤ 1000) : ∀ (j i : Nat), i + j = s.size → (digs s i j = digs s 0 s.size) →
    Gives_ Try.prog Try.f23 0 ⟨hd Try.f23 0, w1Tm s (Int.ofNat s.size) i, vpM0⟩ (p3 (bif digs s 0 s.size then pA (pN s 0 s.size 0) else (0, 0, 5))) ⟨[], 99⟩
  | 0, i, hi, he => by
    have hg : digs s 0 s.size = true := by rw [← he]; rfl
    rw [hg]
    refine Goes.gives (H_head (f := Try.f23) (cuts := w2C) (ns := []) (top := 99) (todo' := hd Try.f23 1) (tm' := w2Tm s (Int.ofNat s.size) ((0 : Nat) : Int)) (m' := vpM 0 0) hE_w mixed rfl ?_) (w_loop2 s hs hg s.size 0 0 (by omega) (by omega) (by decide))
    rw [w_mid, decide_eq_false (show ¬ (i : Int) < Int.ofNat s.size by simp; omega)]
    rfl
  | j + 1, i, hi, he => by
    have hlt : (i : Int) < Int.ofNat s.size := by simp; omega
    cases hb : badB s i with
    | true =>
      have hg : digs s 0 s.size = false := by rw [← he]; unfold digs; rw [hb]; rfl
      rw [hg]
      refine H_ret (cuts := w1C) (ns := []) (top := 99) hE_w mixed rfl ?_
      rw [w_one, decide_eq_true hlt, Int.toNat_natCast, hb, shO_ok (by omega)]
      rfl
    | false =>
      refine Goes.gives (H_head (f := Try.f23) (cuts := w1C) (ns := []) (top := 99) (todo' := hd Try.f23 0) (tm' := w1Tm s (Int.ofNat s.size) ((i + 1 : Nat) : Int)) (m' := vpM0) hE_w mixed rfl ?_) (w_loop1 s hs j (i + 1) (by omega) (by rw [← he]; show _ = (bif badB s i then false else digs s (i + 1) j); rw [hb]; rfl))
      rw [w_one, decide_eq_true hlt, Int.toNat_natCast, hb, shO_ok (by omega), show IntKind.i64.wrap ((i : Int) + 1) = ((i + 1 : Nat) : Int) by rw [wk _ (by omega) (by omega)]; omega]
      rfl
theorem r_loop2 (s : ByteArray) (hs : s.size ≤ 1000) (hg : digs s 0 s.size = true) : ∀ (j i : Nat) (n : Int), i + j = s.size → 0 ≤ n → n < 340282366920938463463374607431768211456 →
    Gives_ Try.prog Try.f24 0 ⟨hd Try.f24 1, r2Tm s i, vpM (satH n) (satL n)⟩ (p3 (pA (pN s i j n))) ⟨[], 99⟩
  | 0, i, n, hi, h0, h1 => by
    refine H_ret (cuts := r2C) (ns := []) (top := 99) hE_w mixed rfl ?_
    rw [r_two, decide_eq_false (show ¬ (i : Int) < Int.ofNat s.size by simp; omega)]
    rfl
  | j + 1, i, n, hi, h0, h1 => by
    have hb := digs_all s _ _ hg i (by omega) (by omega)
    have hd' := badB_in hb
    obtain ⟨z1, z2⟩ := z_eq hb
    have hlt : (i : Int) < Int.ofNat s.size := by simp; omega
    obtain ⟨k1, k2⟩ := vp_key h0 h1 (z := byteAt s i - 48) (by omega) (by omega)
    have ko := vpO_ok (s := s) (n := n) (z := byteAt s i - 48) (i := i) h0 (by omega) (by omega) (by omega) h1
    unfold pN
    by_cases hf : n * 10 + (byteAt s i - 48) < 340282366920938463463374607431768211456
    · rw [decide_eq_true hf]
      refine Goes.gives (H_head (f := Try.f24) (cuts := r2C) (ns := []) (top := 99) (todo' := hd Try.f24 1) (tm' := r2Tm s ((i + 1 : Nat) : Int)) (m' := vpM (satH (n * 10 + (byteAt s i - 48))) (satL (n * 10 + (byteAt s i - 48)))) hE_w mixed rfl ?_) (r_loop2 s hs hg j (i + 1) _ (by omega) (by omega) hf)
      rw [r_two, decide_eq_true hlt, Int.toNat_natCast, z2, k1, k2 hf, decide_eq_true hf, ko, show IntKind.i64.wrap ((i : Int) + 1) = ((i + 1 : Nat) : Int) by rw [wk _ (by omega) (by omega)]; omega]
      rfl
    · rw [decide_eq_false hf]
      refine H_ret (cuts := r2C) (ns := []) (top := 99) hE_w mixed rfl ?_
      rw [r_two, decide_eq_true hlt, Int.toNat_natCast, z2, k1, decide_eq_false hf, ko]
      rfl
theorem r_loop1 (s : ByteArray) (hs : s.size ≤ 1000) : ∀ (j i : Nat), i + j = s.size → (digs s i j = digs s 0 s.size) →
    Gives_ Try.prog Try.f24 0 ⟨hd Try.f24 0, r1Tm s i, vpM0⟩ (p3 (bif digs s 0 s.size then pA (pN s 0 s.size 0) else (0, 0, 5))) ⟨[], 99⟩
  | 0, i, hi, he => by
    have hg : digs s 0 s.size = true := by rw [← he]; rfl
    rw [hg]
    refine Goes.gives (H_head (f := Try.f24) (cuts := r2C) (ns := []) (top := 99) (todo' := hd Try.f24 1) (tm' := r2Tm s ((0 : Nat) : Int)) (m' := vpM 0 0) hE_w mixed rfl ?_) (r_loop2 s hs hg s.size 0 0 (by omega) (by omega) (by decide))
    rw [r_mid, decide_eq_false (show ¬ (i : Int) < Int.ofNat s.size by simp; omega)]
    rfl
  | j + 1, i, hi, he => by
    have hlt : (i : Int) < Int.ofNat s.size := by simp; omega
    cases hb : badB s i with
    | true =>
      have hg : digs s 0 s.size = false := by rw [← he]; unfold digs; rw [hb]; rfl
      rw [hg]
      refine H_ret (cuts := r1C) (ns := []) (top := 99) hE_w mixed rfl ?_
      rw [r_one, decide_eq_true hlt, Int.toNat_natCast, hb, shO_ok (by omega)]
      rfl
    | false =>
      refine Goes.gives (H_head (f := Try.f24) (cuts := r1C) (ns := []) (top := 99) (todo' := hd Try.f24 0) (tm' := r1Tm s ((i + 1 : Nat) : Int)) (m' := vpM0) hE_w mixed rfl ?_) (r_loop1 s hs j (i + 1) (by omega) (by rw [← he]; show _ = (bif badB s i then false else digs s (i + 1) j); rw [hb]; rfl))
      rw [r_one, decide_eq_true hlt, Int.toNat_natCast, hb, shO_ok (by omega), show IntKind.i64.wrap ((i : Int) + 1) = ((i + 1 : Nat) : Int) by rw [wk _ (by omega) (by omega)]; omega]
      rfl
theorem size_list (s : ByteArray) : s.size = s.data.toList.length := by
  show s.data.size = _
  simp
theorem nil_iff (d : ByteArray) : (d.toList == []) = (Int.ofNat d.size == 0) := by
  rw [ByteArray.toList_eq, size_list]
  cases d.data.toList with
  | nil => rfl
  | cons x r =>
    have : (Int.ofNat (x :: r).length == 0) = false := by simp; omega
    rw [this]; rfl
theorem hkR_ok (s : ByteArray) : hkR s = true := by
  unfold hkR
  by_cases h : s.size = 0
  · rw [h]; rfl
  · rw [decide_eq_true (show 0 < s.size by omega)]; simp
theorem hkW_ok (s : ByteArray) : hkW s = true := by
  have := hkR_ok s
  unfold hkR at this
  unfold hkW
  rw [nil_iff]
  exact this
theorem hdW_eq (s : ByteArray) : hdW s = hdB s := by
  unfold hdW hdB
  rw [nil_iff]
def e_wparse : Spec := fun _ args => match args with
  | [.val (.string s)] => some (.tup [.agg [vu (pR0 s), vu (pR1 s)], vi (pR2 s)], none, [Nat.ble s.size 1000])
  | _ => none
theorem ok_wparse : SpecOk Try.prog 23 e_wparse := fun m args v mo bs h hb => by
  unfold e_wparse at h
  split at h
  · rename_i s
    cases h
    simp only [List.all_cons, List.all_nil, id, Bool.and_true] at hb
    have hs := Nat.le_of_ble_eq_true hb
    have hin := w_in s
    rw [hdW_eq, hkW_ok] at hin
    unfold pR0 pR1 pR2 pR
    cases hH : hdB s with
    | true =>
      rw [hH] at hin
      exact lift_ground (fsound (c := bodyOf Try.f23) (fun xs w => Try.call23 xs w) Try.func23 rfl (F_ret hE_w mixed rfl rfl hin)) rfl rfl
    | false =>
      rw [hH] at hin
      exact lift_ground (fsound (c := bodyOf Try.f23) (fun xs w => Try.call23 xs w) Try.func23 rfl
        (Goes.gives (F_head (f := Try.f23) (c := bodyOf Try.f23) (cuts := w1C) (ns := []) (top := 99) hE_w mixed rfl rfl hin) (w_loop1 s hs s.size 0 (by omega) rfl))) rfl rfl
  · cases h
theorem ok_rparse : SpecOk Try.prog 24 e_wparse := fun m args v mo bs h hb => by
  unfold e_wparse at h
  split at h
  · rename_i s
    cases h
    simp only [List.all_cons, List.all_nil, id, Bool.and_true] at hb
    have hs := Nat.le_of_ble_eq_true hb
    have hin := r_in s
    rw [hkR_ok] at hin
    unfold pR0 pR1 pR2 pR
    cases hH : hdB s with
    | true =>
      rw [hH] at hin
      exact lift_ground (fsound (c := bodyOf Try.f24) (fun xs w => Try.call24 xs w) Try.func24 rfl (F_ret hE_w mixed rfl rfl hin)) rfl rfl
    | false =>
      rw [hH] at hin
      exact lift_ground (fsound (c := bodyOf Try.f24) (fun xs w => Try.call24 xs w) Try.func24 rfl
        (Goes.gives (F_head (f := Try.f24) (c := bodyOf Try.f24) (cuts := r1C) (ns := []) (top := 99) hE_w mixed rfl rfl hin) (r_loop1 s hs s.size 0 (by omega) rfl))) rfl rfl
  · cases h
-- texts read back
theorem byte_of (L : List Int) (i : Nat) (h : ∀ z ∈ L, 0 ≤ z ∧ z ≤ 255) : byteAt (strOf L) i = L.getD i 0 := by
  have e : byteAt (strOf L) i = (((strOf L).data.toList.getD i 0).toNat : Int) := rfl
  rw [e, strOf_eq]
  show ((((L.map fun n => UInt8.ofNat n.toNat).toArray).toList.getD i 0).toNat : Int) = _
  rw [List.getD_eq_getElem?_getD, List.getD_eq_getElem?_getD]
  simp only [List.getElem?_map]
  cases hg : L[i]? with
  | none => rfl
  | some z =>
    have := h z (List.mem_of_getElem? hg)
    simp only [Option.map_some, Option.getD_some, UInt8.toNat_ofNat']
    omega
theorem isD_in {z : Int} (h : isD z = true) : 48 ≤ z ∧ z ≤ 57 := by
  unfold isD at h
  cases h1 : decide (z < 48) with
  | true => rw [h1] at h; cases h
  | false =>
    rw [h1] at h
    cases h2 : decide (57 < z) with
    | true => rw [h2] at h; cases h
    | false =>
      have h3 := of_decide_eq_false h1
      have h4 := of_decide_eq_false h2
      omega
theorem pN_list (L : List Int) (h : ∀ z ∈ L, 0 ≤ z ∧ z ≤ 255) : ∀ (j i : Nat) (n : Int), i + j = L.length → pN (strOf L) i j n = pF (L.drop i) n
  | 0, i, n, hi => by rw [List.drop_of_length_le (by omega)]; rfl
  | j + 1, i, n, hi => by
    rw [List.drop_eq_getElem_cons (by omega)]
    unfold pN pF
    rw [byte_of L i h, List.getD_eq_getElem?_getD, List.getElem?_eq_getElem (by omega), Option.getD_some, pN_list L h j (i + 1) _ (by omega)]
theorem digs_list (L : List Int) (h : L.all isD = true) : ∀ (j i : Nat), i + j = L.length → digs (strOf L) i j = true
  | 0, i, _ => rfl
  | j + 1, i, hi => by
    have hb : ∀ z ∈ L, 0 ≤ z ∧ z ≤ 255 := fun z hz => by have := isD_in (List.all_eq_true.1 h z hz); omega
    have h1 : badB (strOf L) i = false := by
      have hd' := isD_in (List.all_eq_true.1 h (L[i]'(by omega)) (List.getElem_mem _))
      unfold badB
      rw [byte_of L i hb, List.getD_eq_getElem?_getD, List.getElem?_eq_getElem (by omega), Option.getD_some, decide_eq_false (by omega)]
      exact decide_eq_false (by omega)
    unfold digs
    rw [h1]
    exact digs_list L h j (i + 1) (by omega)
theorem wtx_size (V : Int) : (wtx V).size ≤ 40 := by
  unfold wtx
  rw [strOf_size]
  have := decL_len 40 V.toNat []
  simpa using this
theorem wtx_back {V : Int} (h0 : 0 ≤ V) (h1 : V < 340282366920938463463374607431768211456) : pR (wtx V) = (satH V, satL V, 0) := by
  obtain ⟨R, rfl⟩ := Int.eq_ofNat_of_zero_le h0
  unfold wtx
  rw [Int.toNat_natCast]
  have hp3 : (10 : Nat) ^ 40 = 10000000000000000000000000000000000000000 := by decide
  have hall := decL_dig 40 R [] rfl
  have hb : ∀ z ∈ decL 40 R [], 0 ≤ z ∧ z ≤ 255 := fun z hz => by have := isD_in (List.all_eq_true.1 hall z hz); omega
  have hd1 : hdB (strOf (decL 40 R [])) = false := by
    unfold hdB
    rw [strOf_size, byte_of _ _ hb]
    by_cases hR : R = 0
    · subst hR; rfl
    · obtain ⟨d, r, he, hne⟩ := decL_head 40 R [] (by omega) (by omega)
      rw [he]
      have e1 : (Int.ofNat (d :: r).length == 0) = false := by simp; omega
      have e2 : ((d :: r).getD 0 0 == 48) = false := by simpa using hne
      rw [e1, e2]
      cases decide (1 < Int.ofNat (d :: r).length) <;> rfl
  unfold pR
  rw [hd1, strOf_size, digs_list _ hall _ 0 (by omega), pN_list _ hb _ 0 0 (by omega), List.drop_zero, pF_dec 40 R [] (by omega) (by omega) (by omega)]
  rfl
def L_t : List (FuncId × Spec) := (22, e_wtext) :: (25, e_rtext) :: (23, e_wparse) :: (24, e_wparse) :: L_w
theorem hE_t : ESound Try.prog (envOf L_t) := env_cons ok_wtext (env_cons ok_rtext (env_cons ok_wparse (env_cons ok_rparse hE_w)))
end Go.Proofs.Ytanfjgkohhlcoaa
