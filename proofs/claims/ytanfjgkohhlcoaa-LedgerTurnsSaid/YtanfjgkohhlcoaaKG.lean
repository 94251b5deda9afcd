/-
  LedgerTurns: the law's run.
-/
import Derived.Test.YtanfjgkohhlcoaaKA
import Derived.Test.YtanfjgkohhlcoaaNest
import Derived.Test.YtanfjgkohhlcoaaPlain
import Derived.Test.YtanfjgkohhlcoaaWS
namespace Go.Proofs.Ytanfjgkohhlcoaa
open Go Go.ChangeShapes Go.WideShapes Go.ChangeAt Go.RowKit Go.Deep
set_option maxRecDepth 100000
def ltC : List Cut := [(2, [0, 1, 5, 6, 7], [0, 1, 2], 3)]
def ltTm (n c : Nat) (t i : Int) : List AV := [.sl false 0 5 0 1 n (some c), .val (.int .u8 t), .unk, .unk, .unk, .ptr 1 1 0 0, .ptr 2 1 0 0, vi i] ++ List.replicate 99 .unk
def ltM (ks ns os ss ts : List Int) (a b e d a' b' e' d' : Int) : MS := ⟨[(0, some (lkB ks ns os ss ts)), (1, some ⟨true, false, .cells [vu a, vu b, vu e, vu d]⟩), (2, some ⟨true, false, .cells [vu a', vu b', vu e', vu d']⟩)], 3⟩
theorem ltn_in (n c : Nat) (t : Int) (ks ns os ss ts : List Int) : F_ Try.prog (L_k5 Try.prog Try.f86 Try.f50 Try.f52 Try.f79 Try.f80 Try.f82 Try.f83 Try.f78 Try.f81) Try.f11 ltC [] 99 [.sl false 0 5 0 1 n (some c), .val (.int .u8 t)] ⟨[(0, some (lkB ks ns os ss ts))], 1⟩ = bif decide (100 < Int.ofNat n) then some (Fin_.ret (AV.val (Value.bool true)) { bl := [], nx := 99 } true) else some (Fin_.head (hd Try.f11 0) [AV.sl false 0 5 0 1 n (some c), AV.val (Value.int IntKind.u8 t), AV.unk, AV.unk, AV.unk, AV.ptr 1 1 0 0, AV.ptr 2 1 0 0, AV.val (Value.int IntKind.i64 0), AV.unk, AV.unk, AV.unk, AV.unk, AV.unk, AV.unk, AV.unk, AV.unk, AV.unk, AV.unk, AV.unk, AV.unk, AV.unk, AV.unk, AV.unk, AV.unk, AV.unk, AV.unk, AV.unk, AV.unk, AV.unk, AV.unk, AV.unk, AV.unk, AV.unk, AV.unk, AV.unk, AV.unk, AV.unk, AV.unk, AV.unk, AV.unk, AV.unk, AV.unk, AV.unk, AV.unk, AV.unk, AV.unk, AV.unk, AV.unk, AV.unk, AV.unk, AV.unk, AV.unk, AV.unk, AV.unk, AV.unk, AV.unk, AV.unk, AV.unk, AV.unk, AV.unk, AV.unk, AV.unk, AV.unk, AV.unk, AV.unk, AV.unk, AV.unk, AV.unk, AV.unk, AV.unk, AV.unk, AV.unk, AV.unk, AV.unk, AV.unk, AV.unk, AV.unk, AV.unk, AV.unk, AV.unk, AV.unk, AV.unk, AV.unk, AV.unk, AV.unk, AV.unk, AV.unk, AV.unk, AV.unk, AV.unk, AV.unk, AV.unk, AV.unk, AV.unk, AV.unk, AV.unk, AV.unk, AV.unk, AV.unk, AV.unk, AV.unk, AV.unk, AV.unk, AV.unk, AV.unk, AV.unk, AV.unk] { bl := [(0, some { wr := false, op := false, cont := Cont.rows [Col.ints IntKind.i64 ks, Col.ints IntKind.i64 ns, Col.ints IntKind.i64 os, Col.ints IntKind.u64 ss, Col.ints IntKind.u64 ts] }), (1, some { wr := true, op := false, cont := Cont.cells [AV.val (Value.int IntKind.u64 0), AV.val (Value.int IntKind.u64 0), AV.val (Value.int IntKind.u64 0), AV.val (Value.int IntKind.u64 0)] }), (2, some { wr := true, op := false, cont := Cont.cells [AV.val (Value.int IntKind.u64 0), AV.val (Value.int IntKind.u64 0), AV.val (Value.int IntKind.u64 0), AV.val (Value.int IntKind.u64 0)] })], nx := 3 } true) := by kernel_rfl
theorem ltn_round (n c : Nat) (t i a b e d a' b' e' d' : Int) (ks ns os ss ts : List Int) : H_ Try.prog (L_k5 Try.prog Try.f86 Try.f50 Try.f52 Try.f79 Try.f80 Try.f82 Try.f83 Try.f78 Try.f81) Try.f11 ltC [] 99 (hd Try.f11 0) (ltTm n c t i) (ltM ks ns os ss ts a b e d a' b' e' d') = bif decide (i < Int.ofNat n) then bif !(sH a b (kI (ks.getD (addN 0 (mulN i.toNat 1)) 0) (ns.getD (addN 0 (mulN i.toNat 1)) 0) (os.getD (addN 0 (mulN i.toNat 1)) 0)) == sH a b (kI (ks.getD (addN 0 (mulN i.toNat 1)) 0) (ns.getD (addN 0 (mulN i.toNat 1)) 0) (os.getD (addN 0 (mulN i.toNat 1)) 0)) && (sL a b (kI (ks.getD (addN 0 (mulN i.toNat 1)) 0) (ns.getD (addN 0 (mulN i.toNat 1)) 0) (os.getD (addN 0 (mulN i.toNat 1)) 0)) == sL a b (kI (ks.getD (addN 0 (mulN i.toNat 1)) 0) (ns.getD (addN 0 (mulN i.toNat 1)) 0) (os.getD (addN 0 (mulN i.toNat 1)) 0)) && true) && (sH e d (kO (ks.getD (addN 0 (mulN i.toNat 1)) 0) 0 (ts.getD (addN 0 (mulN i.toNat 1)) 0)) == sH e d (kO (ks.getD (addN 0 (mulN i.toNat 1)) 0) 0 (ts.getD (addN 0 (mulN i.toNat 1)) 0)) && (sL e d (kO (ks.getD (addN 0 (mulN i.toNat 1)) 0) 0 (ts.getD (addN 0 (mulN i.toNat 1)) 0)) == sL e d (kO (ks.getD (addN 0 (mulN i.toNat 1)) 0) 0 (ts.getD (addN 0 (mulN i.toNat 1)) 0)) && true) && true) && true) then some (Fin_.ret (AV.val (Value.bool false)) { bl := [], nx := 99 } (bif decide (0 ≤ i) then bif decide (i.toNat < n) then bif decide (addN 0 (mulN i.toNat 1) < ks.length) then bif decide (addN 0 (mulN i.toNat 1) < ns.length) then bif decide (addN 0 (mulN i.toNat 1) < os.length) then bif decide (addN 0 (mulN i.toNat 1) < ss.length) then bif decide (addN 0 (mulN i.toNat 1) < ts.length) then bif decide (¬Int.ofNat n = 0) then bif decide (0 ≤ (IntKind.i64.wrap (i + IntKind.i64.wrap t)).tmod (Int.ofNat n)) then bif decide (((IntKind.i64.wrap (i + IntKind.i64.wrap t)).tmod (Int.ofNat n)).toNat < n) then bif decide (addN 0 (mulN ((IntKind.i64.wrap (i + IntKind.i64.wrap t)).tmod (Int.ofNat n)).toNat 1) < ks.length) then bif decide (addN 0 (mulN ((IntKind.i64.wrap (i + IntKind.i64.wrap t)).tmod (Int.ofNat n)).toNat 1) < ns.length) then bif decide (addN 0 (mulN ((IntKind.i64.wrap (i + IntKind.i64.wrap t)).tmod (Int.ofNat n)).toNat 1) < os.length) then bif decide (addN 0 (mulN ((IntKind.i64.wrap (i + IntKind.i64.wrap t)).tmod (Int.ofNat n)).toNat 1) < ss.length) then bif decide (addN 0 (mulN ((IntKind.i64.wrap (i + IntKind.i64.wrap t)).tmod (Int.ofNat n)).toNat 1) < ts.length) then bif inU a then bif inU b then bif inU e then bif inU d then bif inI (ns.getD (addN 0 (mulN i.toNat 1)) 0) then bif inI (os.getD (addN 0 (mulN i.toNat 1)) 0) then bif inU (ts.getD (addN 0 (mulN i.toNat 1)) 0) then bif inU a then bif inU b then bif inU e then bif inU d then bif inI (ns.getD (addN 0 (mulN i.toNat 1)) 0) then bif inI (os.getD (addN 0 (mulN i.toNat 1)) 0) then bif inU (ts.getD (addN 0 (mulN i.toNat 1)) 0) then bif inU a' then bif inU b' then bif inU e' then bif inU d' then bif inI (ns.getD (addN 0 (mulN ((IntKind.i64.wrap (i + IntKind.i64.wrap t)).tmod (Int.ofNat n)).toNat 1)) 0) then bif inI (os.getD (addN 0 (mulN ((IntKind.i64.wrap (i + IntKind.i64.wrap t)).tmod (Int.ofNat n)).toNat 1)) 0) then bif inU (ts.getD (addN 0 (mulN ((IntKind.i64.wrap (i + IntKind.i64.wrap t)).tmod (Int.ofNat n)).toNat 1)) 0) then true else false else false else false else false else false else false else false else false else false else false else false else false else false else false else false else false else false else false else false else false else false else false else false else false else false else false else false else false else false else false else false else false else false else false else false else false)) else some (Fin_.head (hd Try.f11 0) [AV.sl false 0 5 0 1 n (some c), AV.val (Value.int IntKind.u8 t), AV.unk, AV.unk, AV.unk, AV.ptr 1 1 0 0, AV.ptr 2 1 0 0, AV.val (Value.int IntKind.i64 (IntKind.i64.wrap (i + 1))), AV.unk, AV.unk, AV.unk, AV.unk, AV.unk, AV.unk, AV.unk, AV.unk, AV.unk, AV.unk, AV.unk, AV.unk, AV.unk, AV.unk, AV.unk, AV.unk, AV.unk, AV.unk, AV.unk, AV.unk, AV.unk, AV.unk, AV.unk, AV.unk, AV.unk, AV.unk, AV.unk, AV.unk, AV.unk, AV.unk, AV.unk, AV.unk, AV.unk, AV.unk, AV.unk, AV.unk, AV.unk, AV.unk, AV.unk, AV.unk, AV.unk, AV.unk, AV.unk, AV.unk, AV.unk, AV.unk, AV.unk, AV.unk, AV.unk, AV.unk, AV.unk, AV.unk, AV.unk, AV.unk, AV.unk, AV.unk, AV.unk, AV.unk, AV.unk, AV.unk, AV.unk, AV.unk, AV.unk, AV.unk, AV.unk, AV.unk, AV.unk, AV.unk, AV.unk, AV.unk, AV.unk, AV.unk, AV.unk, AV.unk, AV.unk, AV.unk, AV.unk, AV.unk, AV.unk, AV.unk, AV.unk, AV.unk, AV.unk, AV.unk, AV.unk, AV.unk, AV.unk, AV.unk, AV.unk, AV.unk, AV.unk, AV.unk, AV.unk, AV.unk, AV.unk, AV.unk, AV.unk, AV.unk, AV.unk] { bl := [(0, some { wr := false, op := false, cont := Cont.rows [Col.ints IntKind.i64 ks, Col.ints IntKind.i64 ns, Col.ints IntKind.i64 os, Col.ints IntKind.u64 ss, Col.ints IntKind.u64 ts] }), (1, some { wr := true, op := false, cont := Cont.cells [AV.val (Value.int IntKind.u64 (sH a b (kI (ks.getD (addN 0 (mulN i.toNat 1)) 0) (ns.getD (addN 0 (mulN i.toNat 1)) 0) (os.getD (addN 0 (mulN i.toNat 1)) 0)))), AV.val (Value.int IntKind.u64 (sL a b (kI (ks.getD (addN 0 (mulN i.toNat 1)) 0) (ns.getD (addN 0 (mulN i.toNat 1)) 0) (os.getD (addN 0 (mulN i.toNat 1)) 0)))), AV.val (Value.int IntKind.u64 (sH e d (kO (ks.getD (addN 0 (mulN i.toNat 1)) 0) 0 (ts.getD (addN 0 (mulN i.toNat 1)) 0)))), AV.val (Value.int IntKind.u64 (sL e d (kO (ks.getD (addN 0 (mulN i.toNat 1)) 0) 0 (ts.getD (addN 0 (mulN i.toNat 1)) 0))))] }), (2, some { wr := true, op := false, cont := Cont.cells [AV.val (Value.int IntKind.u64 (sH a' b' (kI (ks.getD (addN 0 (mulN ((IntKind.i64.wrap (i + IntKind.i64.wrap t)).tmod (Int.ofNat n)).toNat 1)) 0) (ns.getD (addN 0 (mulN ((IntKind.i64.wrap (i + IntKind.i64.wrap t)).tmod (Int.ofNat n)).toNat 1)) 0) (os.getD (addN 0 (mulN ((IntKind.i64.wrap (i + IntKind.i64.wrap t)).tmod (Int.ofNat n)).toNat 1)) 0)))), AV.val (Value.int IntKind.u64 (sL a' b' (kI (ks.getD (addN 0 (mulN ((IntKind.i64.wrap (i + IntKind.i64.wrap t)).tmod (Int.ofNat n)).toNat 1)) 0) (ns.getD (addN 0 (mulN ((IntKind.i64.wrap (i + IntKind.i64.wrap t)).tmod (Int.ofNat n)).toNat 1)) 0) (os.getD (addN 0 (mulN ((IntKind.i64.wrap (i + IntKind.i64.wrap t)).tmod (Int.ofNat n)).toNat 1)) 0)))), AV.val (Value.int IntKind.u64 (sH e' d' (kO (ks.getD (addN 0 (mulN ((IntKind.i64.wrap (i + IntKind.i64.wrap t)).tmod (Int.ofNat n)).toNat 1)) 0) 0 (ts.getD (addN 0 (mulN ((IntKind.i64.wrap (i + IntKind.i64.wrap t)).tmod (Int.ofNat n)).toNat 1)) 0)))), AV.val (Value.int IntKind.u64 (sL e' d' (kO (ks.getD (addN 0 (mulN ((IntKind.i64.wrap (i + IntKind.i64.wrap t)).tmod (Int.ofNat n)).toNat 1)) 0) 0 (ts.getD (addN 0 (mulN ((IntKind.i64.wrap (i + IntKind.i64.wrap t)).tmod (Int.ofNat n)).toNat 1)) 0))))] })], nx := 3 } (bif decide (0 ≤ i) then bif decide (i.toNat < n) then bif decide (addN 0 (mulN i.toNat 1) < ks.length) then bif decide (addN 0 (mulN i.toNat 1) < ns.length) then bif decide (addN 0 (mulN i.toNat 1) < os.length) then bif decide (addN 0 (mulN i.toNat 1) < ss.length) then bif decide (addN 0 (mulN i.toNat 1) < ts.length) then bif decide (¬Int.ofNat n = 0) then bif decide (0 ≤ (IntKind.i64.wrap (i + IntKind.i64.wrap t)).tmod (Int.ofNat n)) then bif decide (((IntKind.i64.wrap (i + IntKind.i64.wrap t)).tmod (Int.ofNat n)).toNat < n) then bif decide (addN 0 (mulN ((IntKind.i64.wrap (i + IntKind.i64.wrap t)).tmod (Int.ofNat n)).toNat 1) < ks.length) then bif decide (addN 0 (mulN ((IntKind.i64.wrap (i + IntKind.i64.wrap t)).tmod (Int.ofNat n)).toNat 1) < ns.length) then bif decide (addN 0 (mulN ((IntKind.i64.wrap (i + IntKind.i64.wrap t)).tmod (Int.ofNat n)).toNat 1) < os.length) then bif decide (addN 0 (mulN ((IntKind.i64.wrap (i + IntKind.i64.wrap t)).tmod (Int.ofNat n)).toNat 1) < ss.length) then bif decide (addN 0 (mulN ((IntKind.i64.wrap (i + IntKind.i64.wrap t)).tmod (Int.ofNat n)).toNat 1) < ts.length) then bif inU a then bif inU b then bif inU e then bif inU d then bif inI (ns.getD (addN 0 (mulN i.toNat 1)) 0) then bif inI (os.getD (addN 0 (mulN i.toNat 1)) 0) then bif inU (ts.getD (addN 0 (mulN i.toNat 1)) 0) then bif inU a then bif inU b then bif inU e then bif inU d then bif inI (ns.getD (addN 0 (mulN i.toNat 1)) 0) then bif inI (os.getD (addN 0 (mulN i.toNat 1)) 0) then bif inU (ts.getD (addN 0 (mulN i.toNat 1)) 0) then bif inU a' then bif inU b' then bif inU e' then bif inU d' then bif inI (ns.getD (addN 0 (mulN ((IntKind.i64.wrap (i + IntKind.i64.wrap t)).tmod (Int.ofNat n)).toNat 1)) 0) then bif inI (os.getD (addN 0 (mulN ((IntKind.i64.wrap (i + IntKind.i64.wrap t)).tmod (Int.ofNat n)).toNat 1)) 0) then bif inU (ts.getD (addN 0 (mulN ((IntKind.i64.wrap (i + IntKind.i64.wrap t)).tmod (Int.ofNat n)).toNat 1)) 0) then true else false else false else false else false else false else false else false else false else false else false else false else false else false else false else false else false else false else false else false else false else false else false else false else false else false else false else false else false else false else false else false else false else false else false else false else false)) else some (Fin_.ret (AV.val (Value.bool (bif bif bif subH (wv a b) (wv e d) == subH (wv a' b') (wv e' d') && (subL (wv a b) (wv e d) == subL (wv a' b') (wv e' d') && true) then subF (wv a b) (wv e d) == subF (wv a' b') (wv e' d') else false then a == a' && (b == b' && true) && (e == e' && (d == d' && true) && true) && true else false then (ltx a b e d).toList == (ltx a' b' e' d').toList else false))) { bl := [], nx := 99 } (bif inU a then bif inU b then bif inU e then bif inU d then bif inU a' then bif inU b' then bif inU e' then bif inU d' then bif (!bif bif subH (wv a b) (wv e d) == subH (wv a' b') (wv e' d') && (subL (wv a b) (wv e d) == subL (wv a' b') (wv e' d') && true) then subF (wv a b) (wv e d) == subF (wv a' b') (wv e' d') else false then a == a' && (b == b' && true) && (e == e' && (d == d' && true) && true) && true else false) || inU a then bif (!bif bif subH (wv a b) (wv e d) == subH (wv a' b') (wv e' d') && (subL (wv a b) (wv e d) == subL (wv a' b') (wv e' d') && true) then subF (wv a b) (wv e d) == subF (wv a' b') (wv e' d') else false then a == a' && (b == b' && true) && (e == e' && (d == d' && true) && true) && true else false) || inU b then bif (!bif bif subH (wv a b) (wv e d) == subH (wv a' b') (wv e' d') && (subL (wv a b) (wv e d) == subL (wv a' b') (wv e' d') && true) then subF (wv a b) (wv e d) == subF (wv a' b') (wv e' d') else false then a == a' && (b == b' && true) && (e == e' && (d == d' && true) && true) && true else false) || inU e then bif (!bif bif subH (wv a b) (wv e d) == subH (wv a' b') (wv e' d') && (subL (wv a b) (wv e d) == subL (wv a' b') (wv e' d') && true) then subF (wv a b) (wv e d) == subF (wv a' b') (wv e' d') else false then a == a' && (b == b' && true) && (e == e' && (d == d' && true) && true) && true else false) || inU d then bif (!bif bif subH (wv a b) (wv e d) == subH (wv a' b') (wv e' d') && (subL (wv a b) (wv e d) == subL (wv a' b') (wv e' d') && true) then subF (wv a b) (wv e d) == subF (wv a' b') (wv e' d') else false then a == a' && (b == b' && true) && (e == e' && (d == d' && true) && true) && true else false) || inU a' then bif (!bif bif subH (wv a b) (wv e d) == subH (wv a' b') (wv e' d') && (subL (wv a b) (wv e d) == subL (wv a' b') (wv e' d') && true) then subF (wv a b) (wv e d) == subF (wv a' b') (wv e' d') else false then a == a' && (b == b' && true) && (e == e' && (d == d' && true) && true) && true else false) || inU b' then bif (!bif bif subH (wv a b) (wv e d) == subH (wv a' b') (wv e' d') && (subL (wv a b) (wv e d) == subL (wv a' b') (wv e' d') && true) then subF (wv a b) (wv e d) == subF (wv a' b') (wv e' d') else false then a == a' && (b == b' && true) && (e == e' && (d == d' && true) && true) && true else false) || inU e' then bif (!bif bif subH (wv a b) (wv e d) == subH (wv a' b') (wv e' d') && (subL (wv a b) (wv e d) == subL (wv a' b') (wv e' d') && true) then subF (wv a b) (wv e d) == subF (wv a' b') (wv e' d') else false then a == a' && (b == b' && true) && (e == e' && (d == d' && true) && true) && true else false) || inU d' then true else false else false else false else false else false else false else false else false else false else false else false else false else false else false else false else false)) := by kernel_rfl
def iB (zs : List Int) : Prop := ∀ j, isI (zs.getD j 0)
def uC (zs : List Int) : Prop := ∀ j, isU (zs.getD j 0)
theorem kI_nn (k n o : Int) : 0 ≤ kI k n o := by
  unfold kI
  cases k == 0 with
  | true => exact dpV_nn n o
  | false =>
    cases k == 1 with
    | true => exact grV_nn n
    | false => exact Int.le_refl 0
theorem kO_nn {k s t : Int} (hs : isU s) (ht : isU t) : 0 ≤ kO k s t := by
  unfold kO
  have := (wv_in hs ht).1
  cases k == 0 with
  | true => exact Int.le_refl 0
  | false =>
    cases k == 1 with
    | true => exact Int.le_refl 0
    | false => exact this
theorem s_more {s x : Int} (h : 0 ≤ s) (hx : 0 ≤ x) : sH (satH s) (satL s) x = satH (s + x) ∧ sL (satH s) (satL s) x = satL (s + x) := by
  unfold sH sL
  rcases sat_wv h with ⟨_, e⟩ | ⟨c, e⟩
  · rw [e]; exact ⟨rfl, rfl⟩
  · rw [e]
    obtain ⟨_, g2, g3⟩ := sat_over (s := s + x) (by omega)
    rw [g2, g3]
    by_cases h0 : x = 0
    · subst h0; decide
    · obtain ⟨_, k2, k3⟩ := sat_over (s := 340282366920938463463374607431768211455 + x) (by omega)
      exact ⟨k2, k3⟩
theorem tot_nn {f : Nat → Int} (h : ∀ k, 0 ≤ f k) : ∀ (j i : Nat) (s : Int), 0 ≤ s → 0 ≤ tot f i j s
  | 0, _, s, hs => hs
  | j + 1, i, s, hs => tot_nn h j (i + 1) _ (by have := h i; omega)
def fI (ks ns os : List Int) (q : Nat) : Int := kI (ks.getD q 0) (ns.getD q 0) (os.getD q 0)
def fO (ks ts : List Int) (q : Nat) : Int := kO (ks.getD q 0) 0 (ts.getD q 0)
theorem ix_eq {i n t : Nat} (hi : i < n) (hn : n ≤ 1000) (ht : t ≤ 255) : (IntKind.i64.wrap ((i : Int) + IntKind.i64.wrap (t : Int))).tmod (Int.ofNat n) = (((i + t) % n : Nat) : Int) := by
  rw [wk (t : Int) (by omega) (by omega), wk ((i : Int) + t) (by omega) (by omega), Int.tmod_eq_emod_of_nonneg (by omega)]
  simp
theorem ltn_next {n c i t : Nat} {ks ns os ss ts : List Int} {P Q P' Q' : Int} (hi : i < n) (hn : n ≤ 1000) (ht : t ≤ 255) (h1 : n ≤ ks.length) (h2 : n ≤ ns.length) (h3 : n ≤ os.length) (h4 : n ≤ ss.length) (h5 : n ≤ ts.length) (hP : 0 ≤ P) (hQ : 0 ≤ Q) (hP' : 0 ≤ P') (hQ' : 0 ≤ Q')
    (bn : iB ns) (bo : iB os) (bt : uC ts) :
    H_ Try.prog (L_k5 Try.prog Try.f86 Try.f50 Try.f52 Try.f79 Try.f80 Try.f82 Try.f83 Try.f78 Try.f81) Try.f11 ltC [] 99 (hd Try.f11 0) (ltTm n c t i) (ltM ks ns os ss ts (satH P) (satL P) (satH Q) (satL Q) (satH P') (satL P') (satH Q') (satL Q')) =
      some (Fin_.head (hd Try.f11 0) (ltTm n c t ((i + 1 : Nat) : Int)) (ltM ks ns os ss ts (satH (P + fI ks ns os i)) (satL (P + fI ks ns os i)) (satH (Q + fO ks ts i)) (satL (Q + fO ks ts i)) (satH (P' + fI ks ns os ((i + t) % n))) (satL (P' + fI ks ns os ((i + t) % n))) (satH (Q' + fO ks ts ((i + t) % n))) (satL (Q' + fO ks ts ((i + t) % n)))) true) := by
  have hq : (i + t) % n < n := Nat.mod_lt _ (by omega)
  have hp : addN 0 (mulN i 1) = i := rfl
  have hp2 : addN 0 (mulN ((i + t) % n) 1) = (i + t) % n := rfl
  have gn := bn i
  have go := bo i
  have gt := bt i
  have gn2 := bn ((i + t) % n)
  have go2 := bo ((i + t) % n)
  have gt2 := bt ((i + t) % n)
  obtain ⟨a1, a2⟩ := sat_isU hP
  obtain ⟨a3, a4⟩ := sat_isU hQ
  obtain ⟨a5, a6⟩ := sat_isU hP'
  obtain ⟨a7, a8⟩ := sat_isU hQ'
  obtain ⟨m1, m2⟩ := s_more hP (kI_nn (ks.getD i 0) (ns.getD i 0) (os.getD i 0))
  obtain ⟨m3, m4⟩ := s_more hQ (kO_nn (k := ks.getD i 0) isU0 gt)
  obtain ⟨m5, m6⟩ := s_more hP' (kI_nn (ks.getD ((i + t) % n) 0) (ns.getD ((i + t) % n) 0) (os.getD ((i + t) % n) 0))
  obtain ⟨m7, m8⟩ := s_more hQ' (kO_nn (k := ks.getD ((i + t) % n) 0) isU0 gt2)
  have hlt : (i : Int) < Int.ofNat n := by simp; omega
  have hn0 : ¬ Int.ofNat n = 0 := by simp; omega
  have hw : IntKind.i64.wrap ((i : Int) + 1) = ((i + 1 : Nat) : Int) := by rw [wk _ (by omega) (by omega)]; omega
  have hq' : (i + t) % n < n := hq
  unfold fI fO
  rw [ltn_round]
  simp only [ix_eq hi hn ht, Int.toNat_natCast, hp, hp2, hw, m1, m2, m3, m4, m5, m6, m7, m8, decide_eq_true hlt, decide_eq_true hi, decide_eq_true hn0, decide_eq_true hq, decide_eq_true (show (0 : Int) ≤ (((i + t) % n : Nat) : Int) by omega), decide_eq_true (show (0 : Int) ≤ i by omega), decide_eq_true (show i < ks.length by omega), decide_eq_true (show i < ns.length by omega), decide_eq_true (show i < os.length by omega), decide_eq_true (show i < ss.length by omega), decide_eq_true (show i < ts.length by omega),
    decide_eq_true (show (i + t) % n < ks.length by omega), decide_eq_true (show (i + t) % n < ns.length by omega), decide_eq_true (show (i + t) % n < os.length by omega), decide_eq_true (show (i + t) % n < ss.length by omega), decide_eq_true (show (i + t) % n < ts.length by omega),
    inU_of a1, inU_of a2, inU_of a3, inU_of a4, inU_of a5, inU_of a6, inU_of a7, inU_of a8, inI_of gn, inI_of go, inU_of gt, inI_of gn2, inI_of go2, inU_of gt2, inU_of isU0, beq_self_eq_true, Bool.and_self, Bool.and_true, Bool.not_true, Bool.not_false, Bool.true_or, Bool.false_or, Bool.or_true, cond_true, cond_false]
  rfl
theorem ltn_loop {n c t : Nat} {ks ns os ss ts : List Int} (hn : n ≤ 1000) (ht : t ≤ 255) (h1 : n ≤ ks.length) (h2 : n ≤ ns.length) (h3 : n ≤ os.length) (h4 : n ≤ ss.length) (h5 : n ≤ ts.length)
    (bn : iB ns) (bo : iB os) (bt : uC ts) : ∀ (j i : Nat), i + j = n →
    Gives_ Try.prog Try.f11 1 ⟨hd Try.f11 0, ltTm n c t i, ltM ks ns os ss ts (satH (tot (fI ks ns os) 0 i 0)) (satL (tot (fI ks ns os) 0 i 0)) (satH (tot (fO ks ts) 0 i 0)) (satL (tot (fO ks ts) 0 i 0))
      (satH (tot (fun q => fI ks ns os ((q + t) % n)) 0 i 0)) (satL (tot (fun q => fI ks ns os ((q + t) % n)) 0 i 0)) (satH (tot (fun q => fO ks ts ((q + t) % n)) 0 i 0)) (satL (tot (fun q => fO ks ts ((q + t) % n)) 0 i 0))⟩ (vb true) ⟨[], 99⟩
  | 0, i, hi => by
    have hi' : i = n := by omega
    subst hi'
    refine H_ret (cuts := ltC) (ns := []) (top := 99) hE_k5 mixed rfl ?_
    have hI : tot (fun q => fI ks ns os ((q + t) % i)) 0 i 0 = tot (fI ks ns os) 0 i 0 := by
      cases i with
      | zero => rfl
      | succ m => exact tot_rot (fI ks ns os) m t
    have hO : tot (fun q => fO ks ts ((q + t) % i)) 0 i 0 = tot (fO ks ts) 0 i 0 := by
      cases i with
      | zero => rfl
      | succ m => exact tot_rot (fO ks ts) m t
    have p1 : 0 ≤ tot (fI ks ns os) 0 i 0 := tot_nn (fun k => kI_nn _ _ _) i 0 0 (Int.le_refl 0)
    have p2 : 0 ≤ tot (fO ks ts) 0 i 0 := tot_nn (fun k => kO_nn isU0 (bt k)) i 0 0 (Int.le_refl 0)
    obtain ⟨a1, a2⟩ := sat_isU p1
    obtain ⟨a3, a4⟩ := sat_isU p2
    rw [ltn_round, decide_eq_false (show ¬ (i : Int) < Int.ofNat i by simp), hI, hO]
    simp only [inU_of a1, inU_of a2, inU_of a3, inU_of a4, beq_self_eq_true, Bool.and_self, Bool.not_true, Bool.or_true, cond_true, cond_false]
  | j + 1, i, hi => by
    have p1 : 0 ≤ tot (fI ks ns os) 0 i 0 := tot_nn (fun k => kI_nn _ _ _) i 0 0 (Int.le_refl 0)
    have p2 : 0 ≤ tot (fO ks ts) 0 i 0 := tot_nn (fun k => kO_nn isU0 (bt k)) i 0 0 (Int.le_refl 0)
    have p3 : 0 ≤ tot (fun q => fI ks ns os ((q + t) % n)) 0 i 0 := tot_nn (fun k => kI_nn _ _ _) i 0 0 (Int.le_refl 0)
    have p4 : 0 ≤ tot (fun q => fO ks ts ((q + t) % n)) 0 i 0 := tot_nn (fun k => kO_nn isU0 (bt _)) i 0 0 (Int.le_refl 0)
    have hr := ltn_next (c := c) (i := i) (t := t) (ss := ss) (show i < n by omega) hn ht h1 h2 h3 h4 h5 p1 p2 p3 p4 bn bo bt
    have e1 := tot_last (fI ks ns os) i 0 0
    have e2 := tot_last (fO ks ts) i 0 0
    have e3 := tot_last (fun q => fI ks ns os ((q + t) % n)) i 0 0
    have e4 := tot_last (fun q => fO ks ts ((q + t) % n)) i 0 0
    rw [Nat.zero_add] at e1 e2 e3 e4
    rw [← e1, ← e2, ← e3, ← e4] at hr
    exact Goes.gives (H_head (f := Try.f11) (cuts := ltC) (ns := []) (top := 99) hE_k5 mixed rfl hr) (ltn_loop hn ht h1 h2 h3 h4 h5 bn bo bt j (i + 1) (by omega))
theorem i_all {n : Nat} {zs : List Int} (hl : zs.length = n) (h : ∀ j, j < n → (Lit.int .i64 (zs.getD j 0)).wf = true) : iB zs := fun j => by
  by_cases hj : j < n
  · have := wf_i64 (h j hj)
    unfold isI
    omega
  · rw [List.getD_eq_getElem?_getD, List.getElem?_eq_none (by omega)]
    unfold isI
    simp
theorem u_all {n : Nat} {zs : List Int} (hl : zs.length = n) (h : ∀ j, j < n → (Lit.int .u64 (zs.getD j 0)).wf = true) : uC zs := fun j => by
  by_cases hj : j < n
  · have := wf_u64 (h j hj)
    unfold isU
    omega
  · rw [List.getD_eq_getElem?_getD, List.getElem?_eq_none (by omega)]
    exact isU0
theorem wf_u8 {z : Int} (h : (Lit.int .u8 z).wf = true) : 0 ≤ z ∧ z ≤ 255 := by
  simp only [Lit.wf, Bool.and_eq_true, decide_eq_true_eq] at h
  have e1 : IntKind.min .u8 = 0 := by decide
  have e2 : IntKind.max .u8 = 255 := by decide
  rw [e1, e2] at h
  exact h
theorem ledgerturns_all (A : Option Addr) (n c : Nat) (cs : List Col) (i : LI) (t : Int) (ht : 0 ≤ t ∧ t ≤ 255) (w : World) (hin : InB w A n (.rows cs) i) (hnc : n ≤ c) (hc : c ≤ 9223372036854775807) (hf : Fits n [.i .i64, .i .i64, .i .i64, .i .u64, .i .u64] cs) : Gives 11 #[.slice A n c, .int .u8 t] w (.bool true) := by
  obtain ⟨_, _, rfl, ⟨ks, rfl, h1, _⟩, _, _, rfl, ⟨ns, rfl, h2, g2⟩, _, _, rfl, ⟨os, rfl, h3, g3⟩, _, _, rfl, ⟨ss, rfl, h4, g4⟩, _, _, rfl, ⟨ts, rfl, h5, g5⟩, rfl⟩ := hf
  obtain ⟨T, rfl⟩ := Int.eq_ofNat_of_zero_le ht.1
  have hm : MRel (fun _ => i) ⟨[(0, some (lkB ks ns os ss ts))], 1⟩ w := mrel_one (hin.ok _ _)
  have hx : AV.rels (fun _ => i) 1 [.sl false 0 5 0 1 n (some c), .val (.int .u8 (T : Int))] [.slice A n c, .int .u8 (T : Int)] := by
    simp only [AV.rels]
    exact ⟨_, _, rfl, hin.arg (ρ := fun _ => i) (by omega) hnc 5 1, _, _, rfl, by simp [AV.rel], rfl⟩
  refine gives_true (c := bodyOf Try.f11) (m' := ⟨[], 99⟩) Try.func11 rfl ?_ rfl hm hx
  by_cases hn : 100 < n
  · refine F_ret hE_k5 mixed (cuts := ltC) (ns := []) (top := 99) rfl rfl ?_
    rw [ltn_in, decide_eq_true (show (100 : Int) < Int.ofNat n by simp; omega)]
    rfl
  · refine Goes.gives (F_head (f := Try.f11) (c := bodyOf Try.f11) (cuts := ltC) (ns := []) (top := 99) hE_k5 mixed rfl rfl (by
      rw [ltn_in, decide_eq_false (show ¬ ((100 : Int) < Int.ofNat n) by simp; omega)]
      rfl)) (ltn_loop (c := c) (t := T) (ss := ss) (by omega) (by omega) (by omega) (by omega) (by omega) (by omega) (by omega) (i_all h2 g2) (i_all h3 g3) (u_all h5 g5) n 0 (by omega))

set_option maxRecDepth 100000 in
theorem ledgerturns_lifted (os : Os) (started : os.Started) (H : Type) (enc : TypeId × Value → H) :
    ReturnsInHanded {} Try.checked os 11 .any (Rows.ledgerTurnsSpec.pre6 enc Try.prog Try.f11 Rows.ledgerTurnsRow.domain false) (Rows.ledgerTurnsSpec.post enc Try.prog Try.f11 false true false false) := by
  refine returnsInHanded_of_change (C := Try.checked) Try.own started (by kernel_rfl) Try.func11
    (ChangeSpec.witness6 (enc := enc) (C := Try.checked) false ⟨#[], #[.slice none 0 0, .int .u8 0], []⟩ 8 (by kernel_rfl) (by kernel_rfl) (by kernel_rfl) (by kernel_rfl)) ?_
  intro W base args ds gs before hval0 hW hcnd hsized
  have hval : ∀ (j : Nat) t v, Try.f11.params[j]? = some t → args[j]? = some v → Value.okWide Try.prog W .any base t v := hval0
  have hW' := hW
  obtain ⟨p, q, hA0, hV, rfl, hfz, hnd⟩ := hW
  have hA : DataW.TrodAll enc Try.prog W 0 (fun _ => true) true Try.f11.params.toList args.toList ds p := hA0
  rw [Try.params11] at hA hval
  obtain ⟨v0, v1, d0, d1, p0, p1, rfl, rfl, rfl, h0, h1⟩ := trodAll_two hA
  obtain ⟨A, n, c, cs, i, rfl, hnc, hc, hf, hin⟩ := open_nrows [.i .i64, .i .i64, .i .i64, .i .u64, .i .u64] Try.underlying61 (show leavesT Try.prog 9 67 = some [3, 3, 3, 22, 22] by kernel_rfl) (by kernel_rfl) (by decide) (by kernel_rfl) (hval 0 _ v0 rfl rfl) h0
  obtain ⟨t, rfl, rfl, rfl, wt⟩ := open_int Try.underlying5 (hval 1 _ v1 rfl rfl) h1
  refine Gives.use (ledgerturns_all A n c cs i t (wf_u8 wt) W hin hnc hc hf) fun W' hb => ?_
  exact ⟨_, rfl, law_post Try.laidOut (by kernel_rfl) (by kernel_rfl) Try.underlying4 rfl hW' ⟨rfl, rfl, rfl⟩ hb⟩
theorem ledgerturns_holds : Rows.LedgerTurnsSaid :=
  OpenClaim.holds_of_wide 11 Try.f11 rfl rfl rfl rfl rfl rfl rfl ⟨rfl, rfl, rfl, rfl, rfl⟩ rfl rfl rfl rfl rfl (by kernel_rfl) Try.func11 (by kernel_rfl)
    (of_decide_eq_true (by kernel_rfl)) (by unfold Func.isWrapper; first | (rw [if_pos (by decide +kernel)]; kernel_rfl) | (rw [if_neg (by decide +kernel)]; exact ⟨rfl, rfl⟩))
    (fun os started H enc _ => ledgerturns_lifted os started H enc)
end Go.Proofs.Ytanfjgkohhlcoaa
