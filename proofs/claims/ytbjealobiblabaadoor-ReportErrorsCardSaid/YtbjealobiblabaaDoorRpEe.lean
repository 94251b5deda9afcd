/-
  What the program's functions hand back.
-/
import Derived.Test.YtbjealobiblabaaDoorProg
import Derived.Laws.Bits64
import Derived.Test.YtbjealobiblabaaDoorCards
import Derived.Test.YtbjealobiblabaaDoorTie
import Derived.SevenTiedAt
import Derived.HandedShaped
import Derived.Shelf.Vars
import Derived.Lay
import Derived.Test.YtbjealobiblabaaDoorRpEd
namespace Go.Proofs.YtbjealobiblabaaDoor
open Go Go.RowKit
def haymowref03_Text_0 (n_ : Int) : ByteArray := bif decide (n_ < 0) then catB { data := { toList := [45] } } (wholeT (IntKind.u64.wrap (0 - IntKind.u64.wrap n_))) else wholeT (IntKind.u64.wrap n_)
def s_haymowref03_Text (n_ : Int) : AV := AV.val (Value.string (haymowref03_Text_0 n_))
def c_haymowref03_Text (n_ : Int) : Bool := bif decide (n_ < 0) then bif decide (0 ≤ IntKind.u64.wrap (0 - IntKind.u64.wrap n_)) then bif decide (IntKind.u64.wrap (0 - IntKind.u64.wrap n_) ≤ 18446744073709551615) then bif (1 + lenB (wholeT (IntKind.u64.wrap (0 - IntKind.u64.wrap n_)))).ble 9223372036854775807 then true else false else false else false else bif decide (0 ≤ IntKind.u64.wrap n_) then bif decide (IntKind.u64.wrap n_ ≤ 18446744073709551615) then true else false else false
theorem t_haymowref03_Text (n_ : Int) : c_haymowref03_Text n_ = true → F_ Tryd.prog L_dec Tryd.f38 [] [] 99 [AV.val (Value.int IntKind.i64 n_)] noMem = some (.ret (s_haymowref03_Text n_) { bl := [], nx := 99 } true) := by
  have h : F_ Tryd.prog L_dec Tryd.f38 [] [] 99 [AV.val (Value.int IntKind.i64 n_)] noMem = bif decide (n_ < 0) then some (Fin_.ret (AV.val (Value.string (catB { data := { toList := [45] } } (wholeT (IntKind.u64.wrap (0 - IntKind.u64.wrap n_)))))) { bl := [], nx := 99 } (bif decide (0 ≤ IntKind.u64.wrap (0 - IntKind.u64.wrap n_)) then bif decide (IntKind.u64.wrap (0 - IntKind.u64.wrap n_) ≤ 18446744073709551615) then bif (1 + lenB (wholeT (IntKind.u64.wrap (0 - IntKind.u64.wrap n_)))).ble 9223372036854775807 then true else false else false else false)) else some (Fin_.ret (AV.val (Value.string (wholeT (IntKind.u64.wrap n_)))) { bl := [], nx := 99 } (bif decide (0 ≤ IntKind.u64.wrap n_) then bif decide (IntKind.u64.wrap n_ ≤ 18446744073709551615) then true else false else false)) := by kernel_rfl
  rw [h]
  clear h
  unfold s_haymowref03_Text haymowref03_Text_0 c_haymowref03_Text
  generalize ((1 + lenB (wholeT (IntKind.u64.wrap (0 - IntKind.u64.wrap n_)))).ble 9223372036854775807) = b0_
  generalize (decide (IntKind.u64.wrap (0 - IntKind.u64.wrap n_) ≤ 18446744073709551615)) = b1_
  generalize (decide (0 ≤ IntKind.u64.wrap (0 - IntKind.u64.wrap n_))) = b2_
  generalize (decide (0 ≤ IntKind.u64.wrap n_)) = b3_
  generalize (decide (IntKind.u64.wrap n_ ≤ 18446744073709551615)) = b4_
  generalize (decide (n_ < 0)) = b5_
  cases b0_ <;> cases b1_ <;> cases b2_ <;> cases b3_ <;> cases b4_ <;> cases b5_ <;> (first | rfl | (intro h_; cases h_; done) | (intro _; rfl))
def e_haymowref03_Text : Spec := fun _ args => match args with
  | [.val (.int .i64 n_)] => some (s_haymowref03_Text n_, none, [c_haymowref03_Text n_])
  | _ => none
theorem ok_haymowref03_Text : SpecOk Tryd.prog 38 e_haymowref03_Text := fun m args v mo bs h hb => by
  unfold e_haymowref03_Text at h
  split at h
  · cases h
    exact pure_fn (c := bodyOf Tryd.f38) hE_dec mixed (fun xs w => Tryd.call38 xs w) Tryd.func38 rfl (t_haymowref03_Text _ (by simpa using hb)) rfl rfl
  · cases h
def L_haymowref03_Text : List (FuncId × Spec) := (38, e_haymowref03_Text) :: L_dec
theorem hE_haymowref03_Text : ESound Tryd.prog (envOf L_haymowref03_Text) := env_cons ok_haymowref03_Text hE_dec
theorem decL_more : ∀ (f a : Nat) (acc : List Int), 0 < f → a < 10 ^ f → decL (f + 1) a acc = decL f a acc := by
  intro f
  induction f with
  | zero => intro a acc h; omega
  | succ f ih =>
    intro a acc _ ha
    by_cases h9 : a < 10
    · have e : Nat.blt a 10 = true := by simp [Nat.blt_eq]; omega
      conv => lhs; unfold decL
      conv => rhs; unfold decL
      rw [e]; rfl
    · have e : Nat.blt a 10 = false := by cases hb : Nat.blt a 10 with | false => rfl | true => simp [Nat.blt_eq] at hb; omega
      have hp : 10 ^ (f + 1) = 10 ^ f * 10 := Nat.pow_succ ..
      have hf : 0 < f := by
        cases f with
        | zero => simp at ha; omega
        | succ f => omega
      conv => lhs; unfold decL
      conv => rhs; unfold decL
      rw [e]
      simp only [cond_false]
      exact ih (a / 10) _ hf (by omega)
theorem text03 (n : Int) (h : -9223372036854775808 ≤ n) (h' : n ≤ 9223372036854775807) : haymowref03_Text_0 n = decText n ∧ c_haymowref03_Text n = true := by
  have hlen : ∀ f a : Nat, f ≤ 20 → Nat.ble (1 + lenB (strOf (decL f a []))) 9223372036854775807 = true := fun f a hf => by
    have := decL_len f a []
    rw [lenB_eq, strOf_size]
    simp at this
    exact Nat.ble_eq_true_of_le (by omega)
  unfold haymowref03_Text_0 c_haymowref03_Text decText wholeT
  by_cases c : n < 0
  · rw [decide_eq_true c, IntKind.wrap_u64 n, IntKind.wrap_u64 (0 - n % 18446744073709551616)]
    have e : ((0 - n % 18446744073709551616) % 18446744073709551616).toNat = n.natAbs := by omega
    rw [e, decL_more 19 n.natAbs [] (by omega) (by omega), decide_eq_true (show 0 ≤ (0 - n % 18446744073709551616) % 18446744073709551616 by omega), decide_eq_true (show (0 - n % 18446744073709551616) % 18446744073709551616 ≤ 18446744073709551615 by omega), hlen 19 n.natAbs (by omega), catB_eq]
    exact ⟨rfl, rfl⟩
  · rw [decide_eq_false c, IntKind.wrap_u64 n]
    have e : (n % 18446744073709551616).toNat = n.natAbs := by omega
    rw [e, decL_more 19 n.natAbs [] (by omega) (by omega), decide_eq_true (show 0 ≤ n % 18446744073709551616 by omega), decide_eq_true (show n % 18446744073709551616 ≤ 18446744073709551615 by omega)]
    exact ⟨rfl, rfl⟩
def e_t03 : Spec := fun _ args => match args with
  | [.val (.int .i64 n)] => some (vs (decText n), none, [decide (-9223372036854775808 ≤ n), decide (n ≤ 9223372036854775807)])
  | _ => none
theorem ok_t03 : SpecOk Tryd.prog 38 e_t03 := fun m args v mo bs h hb => by
  unfold e_t03 at h
  split at h <;> try cases h
  rename_i n
  simp only [List.all_cons, List.all_nil, id, Bool.and_true, Bool.and_eq_true, decide_eq_true_eq] at hb
  obtain ⟨e1, e2⟩ := text03 n hb.1 hb.2
  exact ok_haymowref03_Text m [.val (.int .i64 n)] (vs (decText n)) none [c_haymowref03_Text n] (by show some (AV.val (.string (haymowref03_Text_0 n)), none, _) = _; rw [e1]) (by simp [e2])
end Go.Proofs.YtbjealobiblabaaDoor

namespace Go.Proofs.YtbjealobiblabaaDoor
open Go Go.RowKit Go.Shelf
set_option maxRecDepth 100000
abbrev L_ct : List (FuncId × Spec) := [(50, e_text), (38, e_t03)]
theorem hE_ct : ESound Tryd.prog (envOf L_ct) := env_cons ok_text (env_cons ok_t03 env_nil)
abbrev tx1 (zs : List Int) (i : Nat) : ByteArray := decText (zs.getD i 0)
abbrev caT (n : Nat) (o : AV) (i : Int) : List AV := [.unk, .unk, .unk, o, .unk, .unk, aS 0 n, vi n, vi i] ++ List.replicate 10 .unk
abbrev cbT (n : Nat) (o : AV) (i : Int) : List AV := [aS 0 n, .unk, .unk, o, vi i] ++ List.replicate 15 .unk
abbrev caC : List Cut := kc [3,6,7,8] [0,1,2,3] 9
abbrev cbC : List Cut := kc [0,3,4] [0,1,2,3] 9
theorem ca_in (zs : List Int) (n : Nat) : F_ Tryd.prog L_ct Tryd.f30 caC [] 99 [aS 0 n] ⟨[sI 0 zs], 1⟩ = some (.head (hd Tryd.f30 0) (caT n nilS 0) ⟨[sI 0 zs, (1, none), (2, none), (3, none)], 9⟩ true) := by kernel_rfl
theorem ca_0 (zs : List Int) (n : Nat) (i : Int) : HO_ Tryd.prog L_ct Tryd.f30 caC [] 99 [1] (hd Tryd.f30 0) (caT n nilS i) ⟨[sI 0 zs], 1⟩ = some (.head (hd Tryd.f30 0) (caT n (bS 2 1) (IntKind.i64.wrap (i + 1))) ⟨[sI 0 zs, (1, c1 (tx1 zs (iy i))), oS 2 [tx1 zs (iy i)], (3, none)], 9⟩ (conj [decide (i < Int.ofNat n), decide (0 ≤ i), decide (i.toNat < n), decide (iy i < zs.length), decide (-9223372036854775808 ≤ zs.getD (iy i) 0), decide (zs.getD (iy i) 0 ≤ 9223372036854775807)])) := by kernel_rfl
theorem ca_1 (zs : List Int) (n q : Nat) (tt : List ByteArray) (i : Int) : HO_ Tryd.prog L_ct Tryd.f30 caC [] 99 [1] (hd Tryd.f30 0) (caT n (bS 1 q) i) ⟨[sI 0 zs, oS 1 tt], 2⟩ = some (.head (hd Tryd.f30 0) (caT n (bS 3 (q + 1)) (IntKind.i64.wrap (i + 1))) ⟨[sI 0 zs, (1, none), (2, c1 (tx1 zs (iy i))), oS 3 (tt.take q ++ [tx1 zs (iy i)])], 9⟩ (conj [decide (i < Int.ofNat n), decide (0 ≤ i), decide (i.toNat < n), decide (iy i < zs.length), decide (-9223372036854775808 ≤ zs.getD (iy i) 0), decide (zs.getD (iy i) 0 ≤ 9223372036854775807), decide (0 < q), decide ((q + 1) * 16 ≤ 140737488355328), decide (q ≤ tt.length)])) := by kernel_rfl
theorem ca_e (zs : List Int) (n q : Nat) (tt : List ByteArray) (i : Int) : HO_ Tryd.prog L_ct Tryd.f30 caC [1] 99 [0] (hd Tryd.f30 0) (caT n (bS 1 q) i) ⟨[sI 0 zs, oS 1 tt], 2⟩ = some (.ret (bS 1 q) ⟨[oS 1 tt], 99⟩ (conj [!decide (i < Int.ofNat n)])) := by kernel_rfl
theorem cb_in (zs : List Int) (n : Nat) : F_ Tryd.prog L_ct Tryd.f20 cbC [] 99 [aS 0 n] ⟨[sI 0 zs], 1⟩ = some (.head (hd Tryd.f20 0) (cbT n nilS 0) ⟨[sI 0 zs, (1, none), (2, none), (3, none)], 9⟩ true) := by kernel_rfl
theorem cb_0 (zs : List Int) (n : Nat) (i : Int) : HO_ Tryd.prog L_ct Tryd.f20 cbC [] 99 [1] (hd Tryd.f20 0) (cbT n nilS i) ⟨[sI 0 zs], 1⟩ = some (.head (hd Tryd.f20 0) (cbT n (bS 2 1) (IntKind.i64.wrap (i + 1))) ⟨[sI 0 zs, (1, c1 (tx1 zs (iy i))), oS 2 [tx1 zs (iy i)], (3, none)], 9⟩ (conj [decide (i < Int.ofNat n), decide (0 ≤ i), decide (i.toNat < n), decide (iy i < zs.length), decide (-9223372036854775808 ≤ zs.getD (iy i) 0), decide (zs.getD (iy i) 0 ≤ 9223372036854775807)])) := by kernel_rfl
theorem cb_1 (zs : List Int) (n q : Nat) (tt : List ByteArray) (i : Int) : HO_ Tryd.prog L_ct Tryd.f20 cbC [] 99 [1] (hd Tryd.f20 0) (cbT n (bS 1 q) i) ⟨[sI 0 zs, oS 1 tt], 2⟩ = some (.head (hd Tryd.f20 0) (cbT n (bS 3 (q + 1)) (IntKind.i64.wrap (i + 1))) ⟨[sI 0 zs, (1, none), (2, c1 (tx1 zs (iy i))), oS 3 (tt.take q ++ [tx1 zs (iy i)])], 9⟩ (conj [decide (i < Int.ofNat n), decide (0 ≤ i), decide (i.toNat < n), decide (iy i < zs.length), decide (-9223372036854775808 ≤ zs.getD (iy i) 0), decide (zs.getD (iy i) 0 ≤ 9223372036854775807), decide (0 < q), decide ((q + 1) * 16 ≤ 140737488355328), decide (q ≤ tt.length)])) := by kernel_rfl
theorem cb_e (zs : List Int) (n q : Nat) (tt : List ByteArray) (i : Int) : HO_ Tryd.prog L_ct Tryd.f20 cbC [1] 99 [0] (hd Tryd.f20 0) (cbT n (bS 1 q) i) ⟨[sI 0 zs, oS 1 tt], 2⟩ = some (.ret (bS 1 q) ⟨[oS 1 tt], 99⟩ (conj [!decide (i < Int.ofNat n)])) := by kernel_rfl
def inZ (zs : List Int) : Bool := zs.all fun z => decide (-9223372036854775808 ≤ z) && decide (z ≤ 9223372036854775807)
theorem inZ_at {zs : List Int} (h : inZ zs = true) {i : Nat} (c : i < zs.length) : -9223372036854775808 ≤ zs[i] ∧ zs[i] ≤ 9223372036854775807 := by
  have := List.all_eq_true.1 h zs[i] (List.getElem_mem c)
  simpa using this
abbrev txs (zs : List Int) : List ByteArray := zs.map decText
theorem txs_succ {zs : List Int} {i : Nat} (h : i < zs.length) : txs (zs.take (i + 1)) = txs (zs.take i) ++ [decText zs[i]] := by
  unfold txs
  rw [List.take_succ_eq_append_getElem h, List.map_append]; rfl
/-- Numbers in a block: a column, or known cells. -/
def intsIn (m : MS) (a : Nat) : Option (List Int) := match look m.bl a with
  | some ⟨_, _, .col (.ints .i64 zs)⟩ => some zs
  | some ⟨_, _, .cells cs⟩ => intsOf .i64 cs
  | _ => none
def e_cells : Spec := fun m args => match args with
  | [.sl _ a 1 0 1 n _] => match intsIn m a with
    | some zs => some (.sl false m.nx 1 0 1 zs.length none, some ⟨(m.nx, some ⟨true, false, .col (.strs (zs.map decText))⟩) :: m.bl, m.nx + 1⟩, [decide (n = zs.length), decide (zs.length ≤ 1000), decide (0 < zs.length), inZ zs])
    | none => none
  | _ => none
theorem intsIn_ok {m : MS} {a : Nat} {zs : List Int} (h : intsIn m a = some zs) : ∃ b, look m.bl a = some b ∧ b.cont.says (.col (.ints .i64 zs)) ∧ b.cont.ground = true ∧ b.cont.plain = true := by
  unfold intsIn at h
  split at h
  · rename_i hl
    cases h
    exact ⟨_, hl, says_self rfl, rfl, rfl⟩
  · rename_i cs hl
    have e := intsOf_eq h
    subst e
    refine ⟨_, hl, says_ints, ?_, rfl⟩
    have hg : ∀ l : List Int, AV.grounds (l.map fun z => AV.val (.int .i64 z)) = true := fun l => by
      induction l with
      | nil => rfl
      | cons z l ih => simp only [List.map_cons, AV.grounds, AV.ground, Bool.true_and]; exact ih
    exact hg zs
  · cases h
theorem ca_loop (zs : List Int) (hz : inZ zs = true) (hn : zs.length ≤ 1000) : ∀ (f i : Nat), i + f = zs.length → 0 < i → Gives_ Tryd.prog Tryd.f30 1 ⟨hd Tryd.f30 0, caT zs.length (bS 1 i) i, ⟨[sI 0 zs, oS 1 (txs (zs.take i))], 2⟩⟩ (bS 1 zs.length) ⟨[oS 1 (txs zs)], 99⟩
  | 0, i, hi, h0 => by
    have h := ca_e zs zs.length i (txs (zs.take i)) i
    rw [conj_ty (by simp; omega)] at h
    have e : i = zs.length := by omega
    rw [List.take_of_length_le (by omega), e] at h
    rw [List.take_of_length_le (by omega), e]
    exact HO_ret hE_ct mixedY rfl h rfl
  | f + 1, i, hi, h0 => by
    have hlt : i < zs.length := by omega
    obtain ⟨z0, z1⟩ := inZ_at hz hlt
    have h := ca_1 zs zs.length i (txs (zs.take i)) i
    have hl : (txs (zs.take i)).length = i := by simp; omega
    have e : tx1 zs i = decText zs[i] := by unfold tx1; rw [gd hlt]
    have et : (txs (zs.take i)).take i = txs (zs.take i) := List.take_of_length_le (by omega)
    rw [upY (by omega), iy_nat, e, et, ← txs_succ hlt] at h
    rw [conj_ty (by rw [gd hlt, hl]; simp [hlt, z0, z1]; omega)] at h
    exact Goes.gives ((HO_head hE_ct mixedY rfl h rfl).trans (Goes.ren (P := Tryd.prog) (B := 1) (σ := [(0, 0), (1, 3)]) (nx := 2) rfl)) (ca_loop zs hz hn f (i + 1) (by omega) (by omega))
theorem ca_all (zs : List Int) (hz : inZ zs = true) (hn : zs.length ≤ 1000) (h0 : 0 < zs.length) : FSound Tryd.prog 30 ⟨[sI 0 zs], 1⟩ [aS 0 zs.length] (bS 1 zs.length) ⟨[oS 1 (txs zs)], 99⟩ := by
  have g0 := (F_head (f := Tryd.f30) (c := bodyOf Tryd.f30) (m := ⟨[sI 0 zs], 1⟩) hE_ct mixedY rfl rfl (ca_in zs zs.length)).trans (Goes.ren (P := Tryd.prog) (B := 1) (σ := [(0, 0)]) (nx := 1) rfl)
  refine fsound (c := bodyOf Tryd.f30) (fun xs w => Tryd.call30 xs w) Tryd.func30 rfl (Goes.gives g0 ?_)
  obtain ⟨z0, z1⟩ := inZ_at hz h0
  have h := ca_0 zs zs.length 0
  have e : tx1 zs (iy 0) = decText zs[0] := by show decText (zs.getD 0 0) = _; rw [gd h0]
  have e2 : [decText zs[0]] = txs (zs.take 1) := by rw [txs_succ h0]; rfl
  have e3 : zs.getD (iy 0) 0 = zs[0] := gd h0
  rw [e, e2, conj_ty (by have : iy 0 = 0 := rfl
                         rw [e3, this]; simp [h0, z0, z1])] at h
  exact Goes.gives ((HO_head hE_ct mixedY rfl h rfl).trans (Goes.ren (P := Tryd.prog) (B := 1) (σ := [(0, 0), (1, 2)]) (nx := 2) rfl)) (ca_loop zs hz hn (zs.length - 1) 1 (by omega) (by omega))
theorem ok_ca : SpecOk Tryd.prog 30 e_cells := fun m args v mo bs h hb => by
  unfold e_cells at h
  split at h <;> try cases h
  rename_i nn a n ca
  split at h
  · rename_i zs he
    cases h
    simp only [List.all_cons, List.all_nil, id, Bool.and_true, Bool.and_eq_true, decide_eq_true_eq] at hb
    obtain ⟨rfl, h1, h2, h3⟩ := hb
    obtain ⟨b, hb1, hb2, hb3, hb4⟩ := intsIn_ok he
    exact lift_listW (m1 := ⟨[sI 0 zs], 1⟩) (args1 := [aS 0 zs.length]) (c := .col (.strs (txs zs))) rfl rfl rfl h2
      (sim_slices [⟨nn, a, 1, 1, zs.length, ca, .col (.ints .i64 zs)⟩] (br := []) (fun x hx => by
        simp only [List.mem_cons, List.not_mem_nil, or_false] at hx
        subst hx
        exact SlA.said hb1 hb2 hb3 hb4) rfl)
      ⟨true, 1, ⟨[oS 1 (txs zs)], 99⟩, true, _, none, rfl, says_self rfl, ca_all zs h3 h1 h2⟩
  · cases h
theorem cb_loop (zs : List Int) (hz : inZ zs = true) (hn : zs.length ≤ 1000) : ∀ (f i : Nat), i + f = zs.length → 0 < i → Gives_ Tryd.prog Tryd.f20 1 ⟨hd Tryd.f20 0, cbT zs.length (bS 1 i) i, ⟨[sI 0 zs, oS 1 (txs (zs.take i))], 2⟩⟩ (bS 1 zs.length) ⟨[oS 1 (txs zs)], 99⟩
  | 0, i, hi, h0 => by
    have h := cb_e zs zs.length i (txs (zs.take i)) i
    rw [conj_ty (by simp; omega)] at h
    have e : i = zs.length := by omega
    rw [List.take_of_length_le (by omega), e] at h
    rw [List.take_of_length_le (by omega), e]
    exact HO_ret hE_ct mixedY rfl h rfl
  | f + 1, i, hi, h0 => by
    have hlt : i < zs.length := by omega
    obtain ⟨z0, z1⟩ := inZ_at hz hlt
    have h := cb_1 zs zs.length i (txs (zs.take i)) i
    have hl : (txs (zs.take i)).length = i := by simp; omega
    have e : tx1 zs i = decText zs[i] := by unfold tx1; rw [gd hlt]
    have et : (txs (zs.take i)).take i = txs (zs.take i) := List.take_of_length_le (by omega)
    rw [upY (by omega), iy_nat, e, et, ← txs_succ hlt] at h
    rw [conj_ty (by rw [gd hlt, hl]; simp [hlt, z0, z1]; omega)] at h
    exact Goes.gives ((HO_head hE_ct mixedY rfl h rfl).trans (Goes.ren (P := Tryd.prog) (B := 1) (σ := [(0, 0), (1, 3)]) (nx := 2) rfl)) (cb_loop zs hz hn f (i + 1) (by omega) (by omega))
theorem cb_all (zs : List Int) (hz : inZ zs = true) (hn : zs.length ≤ 1000) (h0 : 0 < zs.length) : FSound Tryd.prog 20 ⟨[sI 0 zs], 1⟩ [aS 0 zs.length] (bS 1 zs.length) ⟨[oS 1 (txs zs)], 99⟩ := by
  have g0 := (F_head (f := Tryd.f20) (c := bodyOf Tryd.f20) (m := ⟨[sI 0 zs], 1⟩) hE_ct mixedY rfl rfl (cb_in zs zs.length)).trans (Goes.ren (P := Tryd.prog) (B := 1) (σ := [(0, 0)]) (nx := 1) rfl)
  refine fsound (c := bodyOf Tryd.f20) (fun xs w => Tryd.call20 xs w) Tryd.func20 rfl (Goes.gives g0 ?_)
  obtain ⟨z0, z1⟩ := inZ_at hz h0
  have h := cb_0 zs zs.length 0
  have e : tx1 zs (iy 0) = decText zs[0] := by show decText (zs.getD 0 0) = _; rw [gd h0]
  have e2 : [decText zs[0]] = txs (zs.take 1) := by rw [txs_succ h0]; rfl
  have e3 : zs.getD (iy 0) 0 = zs[0] := gd h0
  rw [e, e2, conj_ty (by have : iy 0 = 0 := rfl
                         rw [e3, this]; simp [h0, z0, z1])] at h
  exact Goes.gives ((HO_head hE_ct mixedY rfl h rfl).trans (Goes.ren (P := Tryd.prog) (B := 1) (σ := [(0, 0), (1, 2)]) (nx := 2) rfl)) (cb_loop zs hz hn (zs.length - 1) 1 (by omega) (by omega))
theorem ok_cb : SpecOk Tryd.prog 20 e_cells := fun m args v mo bs h hb => by
  unfold e_cells at h
  split at h <;> try cases h
  rename_i nn a n ca
  split at h
  · rename_i zs he
    cases h
    simp only [List.all_cons, List.all_nil, id, Bool.and_true, Bool.and_eq_true, decide_eq_true_eq] at hb
    obtain ⟨rfl, h1, h2, h3⟩ := hb
    obtain ⟨b, hb1, hb2, hb3, hb4⟩ := intsIn_ok he
    exact lift_listW (m1 := ⟨[sI 0 zs], 1⟩) (args1 := [aS 0 zs.length]) (c := .col (.strs (txs zs))) rfl rfl rfl h2
      (sim_slices [⟨nn, a, 1, 1, zs.length, ca, .col (.ints .i64 zs)⟩] (br := []) (fun x hx => by
        simp only [List.mem_cons, List.not_mem_nil, or_false] at hx
        subst hx
        exact SlA.said hb1 hb2 hb3 hb4) rfl)
      ⟨true, 1, ⟨[oS 1 (txs zs)], 99⟩, true, _, none, rfl, says_self rfl, cb_all zs h3 h1 h2⟩
  · cases h
end Go.Proofs.YtbjealobiblabaaDoor

namespace Go.Proofs.YtbjealobiblabaaDoor
open Go Go.RowKit Go.Shelf
set_option maxRecDepth 100000
abbrev rwB (n m : Nat) : Nat × Option ABlk := (4, some ⟨true, false, .cells [aS 0 n, aS 1 m]⟩)
abbrev rwC : List Cut := kc [2,3,7] [0,1,3,4] 9
abbrev rwT (k : Nat) (i : Int) : List AV := [.unk, .unk, aS 3 k, .ptr 4 1 0 0, .unk, .unk, .unk, vi i] ++ List.replicate 30 .unk
abbrev L_rw : List (FuncId × Spec) := [(12, e_sameS)]
theorem hE_rw : ESound Tryd.prog (envOf L_rw) := env_cons ok_sameS env_nil
abbrev rwM (hs gs : List ByteArray) (rss uss : List (List ByteArray)) : MS := ⟨[sS 0 hs, sN 1 rss [], sS 2 gs, sN 3 uss []], 4⟩
abbrev rwA (n m g k : Nat) : List AV := [.agg [aS 0 n, aS 1 m], aS 2 g, aS 3 k]
abbrev rwN (hs : List ByteArray) (rss uss : List (List ByteArray)) (n m : Nat) : MS := ⟨[sS 0 hs, sN 1 rss [], sN 3 uss [], rwB n m], 5⟩
abbrev rwF (hs : List ByteArray) (rss uss : List (List ByteArray)) (n m j : Nat) : MS := ⟨[sS 6 (uss.getD j []), sS 5 (rss.getD j []), sS 0 hs, sN 1 rss (fo1 rss j 5), sN 3 uss (fo1 uss j 6), rwB n m], 7⟩
theorem rw_no (hs gs : List ByteArray) (rss uss : List (List ByteArray)) (n m g k : Nat) : FO_ Tryd.prog L_rw Tryd.f14 rwC [] 99 [1] (rwA n m g k) (rwM hs gs rss uss) = some (.ret (vb false) ⟨[], 99⟩ (conj [decide (n = hs.length), decide (g = gs.length), decide (hs.length ≤ 4294967296), (bif !sameS hs gs then true else Int.ofNat m != Int.ofNat k)])) := by kernel_rfl
theorem rw_in (hs gs : List ByteArray) (rss uss : List (List ByteArray)) (n m g k : Nat) : FO_ Tryd.prog L_rw Tryd.f14 rwC [] 99 [0] (rwA n m g k) (rwM hs gs rss uss) = some (.head (hd Tryd.f14 0) (rwT k 0) ⟨[sS 0 hs, sN 1 rss [], sN 3 uss [], rwB n m], 9⟩ (conj [decide (n = hs.length), decide (g = gs.length), decide (hs.length ≤ 4294967296), !(bif !sameS hs gs then true else Int.ofNat m != Int.ofNat k)])) := by kernel_rfl
theorem rw_f (hs : List ByteArray) (rss uss : List (List ByteArray)) (n m k j : Nat) (i : Int) : HO_ Tryd.prog L_rw Tryd.f14 rwC [] 99 [1, 1] (hd Tryd.f14 0) (rwT k i) (rwF hs rss uss n m j) = some (.ret (vb false) ⟨[], 99⟩ (conj [decide (i < Int.ofNat k), decide (0 ≤ i), decide (i.toNat < m), Nat.beq (iy i) j, decide (0 ≤ i), decide (i.toNat < k), Nat.beq (iy i) j, decide ((rss.getD j []).length = (rss.getD j []).length), decide ((uss.getD j []).length = (uss.getD j []).length), decide ((rss.getD j []).length ≤ 4294967296), !sameS (rss.getD j []) (uss.getD j [])])) := by kernel_rfl
theorem rw_t (hs : List ByteArray) (rss uss : List (List ByteArray)) (n m k j : Nat) (i : Int) : HO_ Tryd.prog L_rw Tryd.f14 rwC [] 99 [1, 0] (hd Tryd.f14 0) (rwT k i) (rwF hs rss uss n m j) = some (.head (hd Tryd.f14 0) (rwT k (IntKind.i64.wrap (i + 1))) ⟨[sS 0 hs, sN 1 rss [], sN 3 uss [], rwB n m], 9⟩ (conj [decide (i < Int.ofNat k), decide (0 ≤ i), decide (i.toNat < m), Nat.beq (iy i) j, decide (0 ≤ i), decide (i.toNat < k), Nat.beq (iy i) j, decide ((rss.getD j []).length = (rss.getD j []).length), decide ((uss.getD j []).length = (uss.getD j []).length), decide ((rss.getD j []).length ≤ 4294967296), !!sameS (rss.getD j []) (uss.getD j [])])) := by kernel_rfl
theorem rw_e (hs : List ByteArray) (rss uss : List (List ByteArray)) (n m k j : Nat) (i : Int) : HO_ Tryd.prog L_rw Tryd.f14 rwC [] 99 [0] (hd Tryd.f14 0) (rwT k i) (rwN hs rss uss n m) = some (.ret (vb true) ⟨[], 99⟩ (conj [!decide (i < Int.ofNat k)])) := by kernel_rfl
end Go.Proofs.YtbjealobiblabaaDoor

namespace Go.Proofs.YtbjealobiblabaaDoor
open Go Go.RowKit Go.Shelf
set_option maxRecDepth 100000
theorem rw_loop (hs : List ByteArray) (rss uss : List (List ByteArray)) (hl : rss.length = uss.length) (h32 : rss.length ≤ 4294967296) (hr : (rss.all fun r => decide (r.length ≤ 4294967296)) = true) : ∀ (f i : Nat), i + f = rss.length → (∀ j, j < i → rss.getD j [] = uss.getD j []) →
    Gives_ Tryd.prog Tryd.f14 4 ⟨hd Tryd.f14 0, rwT uss.length i, rwN hs rss uss hs.length rss.length⟩ (vb (decide (rss = uss))) ⟨[], 99⟩
  | 0, i, hi, he => by
    have h := rw_e hs rss uss hs.length rss.length uss.length 0 i
    rw [conj_ty (by simp; omega)] at h
    have e : decide (rss = uss) = true := decide_eq_true (by
      apply List.ext_getElem hl
      intro j h1 h2
      have := he j (by omega)
      rwa [gd h1, gd h2] at this)
    rw [e]
    exact HO_ret hE_rw mixedY rfl h rfl
  | f + 1, i, hi, he => by
    have hlt : i < rss.length := by omega
    have hlt' : i < uss.length := by omega
    have h1 : rss.getD i [] = rss[i] := gd hlt
    have hrl : (rss.getD i []).length ≤ 4294967296 := by rw [h1]; exact of_decide_eq_true (List.all_eq_true.1 hr rss[i] (List.getElem_mem hlt))
    have g1 := Goes.focus (P := Tryd.prog) (B := 4) (todo := hd Tryd.f14 0) (tm := rwT uss.length i) (m := rwN hs rss uss hs.length rss.length) 1 0 i rfl rfl hlt
    have g2 := g1.trans (Goes.focus 3 0 i (nc := .strs uss) rfl rfl hlt')
    by_cases hc : rss.getD i [] = uss.getD i []
    · have h := rw_t hs rss uss hs.length rss.length uss.length i i
      rw [upY (by omega), iy_nat] at h
      have e0 : sameS (rss.getD i []) (uss.getD i []) = true := decide_eq_true hc
      rw [conj_ty (by simp only [List.all_cons, List.all_nil, id, Bool.and_true, Bool.and_eq_true, decide_eq_true_eq, Nat.beq_refl, e0, Bool.not_true, Bool.not_false]; exact ⟨by simpa using hlt', by omega, hlt, trivial, by omega, hlt', trivial, trivial, trivial, hrl⟩)] at h
      exact Goes.gives (g2.trans ((HO_head hE_rw mixedY rfl h rfl).trans (Goes.ren (P := Tryd.prog) (B := 4) (σ := [(0, 0), (1, 1), (3, 3), (4, 4)]) (nx := 5) rfl))) (rw_loop hs rss uss hl h32 hr f (i + 1) (by omega) fun j hj => by
        by_cases e : j = i
        · subst e; exact hc
        · exact he j (by omega))
    · have h := rw_f hs rss uss hs.length rss.length uss.length i i
      rw [iy_nat] at h
      have e0 : sameS (rss.getD i []) (uss.getD i []) = false := decide_eq_false hc
      rw [conj_ty (by simp only [List.all_cons, List.all_nil, id, Bool.and_true, Bool.and_eq_true, decide_eq_true_eq, Nat.beq_refl, e0, Bool.not_true, Bool.not_false]; exact ⟨by simpa using hlt', by omega, hlt, trivial, by omega, hlt', trivial, trivial, trivial, hrl⟩)] at h
      have e : decide (rss = uss) = false := decide_eq_false fun e => hc (by rw [e])
      rw [e]
      exact Goes.gives g2 (HO_ret hE_rw mixedY rfl h rfl)
theorem rw_all (hs gs : List ByteArray) (rss uss : List (List ByteArray)) (hh : hs.length ≤ 4294967296) (h32 : rss.length ≤ 4294967296) (hr : (rss.all fun r => decide (r.length ≤ 4294967296)) = true) :
    Gives_ Tryd.prog Tryd.f14 4 (enterA Tryd.f14 (bodyOf Tryd.f14) (rwA hs.length rss.length gs.length uss.length) (rwM hs gs rss uss)) (vb (sameS hs gs && decide (rss = uss))) ⟨[], 99⟩ := by
  by_cases hl : sameS hs gs = true ∧ rss.length = uss.length
  · have h := rw_in hs gs rss uss hs.length rss.length gs.length uss.length
    rw [conj_ty (by simp [hh, hl.1, hl.2])] at h
    rw [hl.1, Bool.true_and]
    exact Goes.gives ((FO_head (c := bodyOf Tryd.f14) (m := rwM hs gs rss uss) hE_rw mixedY rfl rfl h rfl).trans (Goes.ren (P := Tryd.prog) (B := 4) (σ := [(0, 0), (1, 1), (3, 3), (4, 4)]) (nx := 5) rfl)) (rw_loop hs rss uss hl.2 h32 hr rss.length 0 (by omega) fun j hj => by omega)
  · have h := rw_no hs gs rss uss hs.length rss.length gs.length uss.length
    have e : (sameS hs gs && decide (rss = uss)) = false := by
      rw [Bool.eq_false_iff]
      intro e
      rw [Bool.and_eq_true] at e
      exact hl ⟨e.1, by rw [of_decide_eq_true e.2]⟩
    rw [conj_ty (by
      cases hs' : sameS hs gs with
      | false => simp [hh]
      | true =>
        have : ¬ rss.length = uss.length := fun e => hl ⟨hs', e⟩
        simp [hh]; omega)] at h
    rw [e]
    exact FO_ret (c := bodyOf Tryd.f14) (m := rwM hs gs rss uss) hE_rw mixedY rfl rfl h rfl
/-- Texts in a block: a column, or known cells. -/
def strsIn (m : MS) (a : Nat) : Option (List ByteArray) := match look m.bl a with
  | some ⟨_, _, .col (.strs zs)⟩ => some zs
  | some ⟨_, _, .cells cs⟩ => strsOf cs
  | _ => none
theorem strsIn_ok {m : MS} {a : Nat} {zs : List ByteArray} (h : strsIn m a = some zs) : ∃ b, look m.bl a = some b ∧ b.cont.says (.col (.strs zs)) ∧ b.cont.ground = true ∧ b.cont.plain = true := by
  unfold strsIn at h
  split at h
  · rename_i hl
    cases h
    exact ⟨_, hl, says_self rfl, rfl, rfl⟩
  · rename_i cs hl
    have e := strsOf_eq h
    subst e
    refine ⟨_, hl, says_strs, ?_, rfl⟩
    show AV.grounds _ = true
    have hg : ∀ l : List ByteArray, AV.grounds (l.map fun z => AV.val (.string z)) = true := fun l => by
      induction l with
      | nil => rfl
      | cons z l ih => simp only [List.map_cons, AV.grounds, AV.ground, Bool.true_and]; exact ih
    exact hg zs
  · cases h
def e_rows : Spec := fun m args => match args with
  | [.agg [.sl _ a 1 0 1 n _, .sl _ b 1 0 1 k _], .sl _ c 1 0 1 g _, .sl _ d 1 0 1 q _] => match strsIn m a, look m.bl b, strsIn m c, look m.bl d with
    | some hs, some ⟨_, _, .obj (.nest [.strs rss] _)⟩, some gs, some ⟨_, _, .obj (.nest [.strs uss] _)⟩ => some (vb (sameS hs gs && decide (rss = uss)), none, [decide (n = hs.length), decide (k = rss.length), decide (g = gs.length), decide (q = uss.length), decide (hs.length ≤ 4294967296), decide (rss.length ≤ 4294967296), rss.all fun r => decide (r.length ≤ 4294967296)])
    | _, _, _, _ => none
  | _ => none
theorem ok_rowsY : SpecOk Tryd.prog 14 e_rows := fun m args v mo bs h hb => by
  unfold e_rows at h
  split at h <;> try cases h
  rename_i n1 a n c1 n2 b k c2 n3 c g c3 n4 d q c4
  split at h <;> try cases h
  rename_i hs _ _ rss _ gs _ _ uss _ ha hbk hc hd
  simp only [List.all_cons, List.all_nil, id, Bool.and_true, Bool.and_eq_true] at hb
  obtain ⟨q1, q2, q3, q4, q5, q6, q7⟩ := hb
  have q1 := of_decide_eq_true q1
  have q2 := of_decide_eq_true q2
  have q3 := of_decide_eq_true q3
  have q4 := of_decide_eq_true q4
  subst q1 q2 q3 q4
  obtain ⟨ba, a1, a2, a3, a4⟩ := strsIn_ok ha
  obtain ⟨bc, d1, d2, d3, d4⟩ := strsIn_ok hc
  exact lift_pure (m1 := rwM hs gs rss uss) (args1 := rwA hs.length rss.length gs.length uss.length) (fsound (c := bodyOf Tryd.f14) (fun xs w => Tryd.call14 xs w) Tryd.func14 rfl (rw_all hs gs rss uss (of_decide_eq_true q5) (of_decide_eq_true q6) q7)) rfl rfl
    (sim_agg2 ⟨n1, a, 1, 1, hs.length, c1, .col (.strs hs)⟩ ⟨n2, b, 1, 1, rss.length, c2, .obj (.nest [.strs rss] [])⟩ [⟨n3, c, 1, 1, gs.length, c3, .col (.strs gs)⟩, ⟨n4, d, 1, 1, uss.length, c4, .obj (.nest [.strs uss] [])⟩] (br := []) (fun x hx => by
      simp only [List.mem_cons, List.not_mem_nil, or_false] at hx
      rcases hx with rfl | rfl | rfl | rfl
      · exact SlA.said a1 a2 a3 a4
      · exact SlA.nested hbk
      · exact SlA.said d1 d2 d3 d4
      · exact SlA.nested hd) rfl)
/-- One more name, where nothing may be written. -/
theorem MRel.addRo {ρ ρ1 : Rho} {m : MS} {w : World} {c : Cont} {i : LI} {nx1 : Nat} (hm : MRel ρ m w) (hro : allRo m.bl = true) (hg : c.ground = true) (hok : (⟨false, false, c⟩ : ABlk).ok ρ1 nx1 i w) :
    MRel (ρ.new m.nx i) ⟨(m.nx, some ⟨false, false, c⟩) :: m.bl, m.nx + 1⟩ w := by
  have hext : ∀ l, l < m.nx → (ρ.new m.nx i) l = ρ l := fun l hl => by unfold Rho.new; rw [if_neg (by omega)]
  have key : ∀ l b', look ((m.nx, some (⟨false, false, c⟩ : ABlk)) :: m.bl) l = some b' → (l = m.nx ∧ b' = ⟨false, false, c⟩) ∨ (l < m.nx ∧ look m.bl l = some b') := fun l b' hl => by
    rw [look_cons] at hl
    split at hl
    · rename_i e; cases hl; exact .inl ⟨e.symm, rfl⟩
    · exact .inr ⟨(hm.blk l b' hl).1, hl⟩
  have ro : ∀ l b', look ((m.nx, some (⟨false, false, c⟩ : ABlk)) :: m.bl) l = some b' → b'.wr = false := fun l b' hl => by
    rcases key l b' hl with ⟨_, rfl⟩ | ⟨_, h⟩
    · rfl
    · exact allRo_look hro h
  refine ⟨fun l b' hl => ?_, (fun l b1 l' b2 h1 _ hw _ _ => by rw [ro l b1 h1] at hw; cases hw), (fun l b1 l' b2 h1 _ hw _ => by rw [ro l b1 h1] at hw; cases hw)⟩
  rcases key l b' hl with ⟨rfl, rfl⟩ | ⟨hlt, hl⟩
  · refine ⟨Nat.lt_succ_self _, ?_⟩
    have e : (ρ.new m.nx i) m.nx = i := by simp [Rho.new]
    rw [e]
    exact ⟨hok.lt, Cont.rel_ground hg hok.rel, hok.free, hok.room, fun q hq => (hok.obj q hq).ok_ground (by have hq : c = .obj q := hq; rw [← hq]; exact hg)⟩
  · refine ⟨Nat.lt_succ_of_lt hlt, ?_⟩
    rw [hext l hlt]
    exact (hm.blk l b' hl).2.ext hext (Nat.le_succ _) (Nat.le_refl _) rfl (fun _ _ _ => rfl)
end Go.Proofs.YtbjealobiblabaaDoor

namespace Go.Proofs.YtbjealobiblabaaDoor
open Go Go.RowKit Go.Shelf
set_option maxRecDepth 100000
abbrev EV := List Int × List Int
abbrev L_er : List (FuncId × Spec) := [(30, e_cells)]
theorem hE_er : ESound Tryd.prog (envOf L_er) := env_cons ok_ca env_nil
abbrev erN : List Nat := [0,1,2,3,4,5,6,7,8,9]
abbrev erN2 : List Nat := [0,1,2,3,4,5,6,7,8,9,10,11,12,13,14,15,16,17,18]
abbrev erA : List Cut := kc [2,3,4,5,15,16,17] erN 40
abbrev erCb : List Cut := kc [2,3,4,5,8] erN 40
abbrev erCc : List Cut := kc [2,3,4,5,8,9] erN 40
abbrev erCd : List Cut := kc [2,3,4,73,74,75] [0,1,2,3,4,5,18] 40
abbrev erB : Nat × Option ABlk := (1, some ⟨true, false, .cells [nilS, nilS]⟩)
abbrev tErr : ByteArray := ⟨⟨[101, 114, 114, 111, 114]⟩⟩
abbrev tTim : ByteArray := ⟨⟨[116, 105, 109, 101, 115]⟩⟩
abbrev erH : Nat × Option ABlk := (2, some ⟨true, false, .cells [vs tErr, vs tTim]⟩)
abbrev hd2 : AV := .sl true 2 1 0 1 2 (some 2)
abbrev erTb (r : AV) : Nat × Option ABlk := (3, some ⟨true, false, .cells [hd2, r]⟩)
abbrev erM (es : List EV) : Nat × Option ABlk := (4, some ⟨true, false, .obj (.mpo 0 0 es)⟩)
abbrev erT (n : Nat) (o : AV) (i : Int) : List AV := [.unk, .unk, .ptr 1 1 0 0, .ptr 3 1 0 0, .mp 4, o] ++ List.replicate 9 .unk ++ [aS 0 n, vi n, vi i] ++ List.replicate 74 .unk
abbrev erT2 (o : AV) (i : Int) : List AV := [.unk, .unk, .ptr 1 1 0 0, .ptr 3 1 0 0, .mp 4, o, .unk, .unk, vi i] ++ List.replicate 83 .unk
abbrev erT3 (o : AV) (i k : Int) : List AV := [.unk, .unk, .ptr 1 1 0 0, .ptr 3 1 0 0, .mp 4, o, .unk, .unk, vi i, vi k] ++ List.replicate 82 .unk
abbrev erT4 (o : AV) (q : Nat) (i : Int) : List AV := [.unk, .unk, .ptr 1 1 0 0, .ptr 3 1 0 0, .mp 4] ++ List.replicate 68 .unk ++ [o, vi q, vi i] ++ List.replicate 16 .unk
abbrev oN (k : Nat) (rss : List (List ByteArray)) : Nat × Option ABlk := (k, some ⟨true, true, .obj (.nest [.strs rss] [])⟩)
/-- How often a key was counted. -/
def cntM (es : List EV) (z : Int) : Int := ((lookM es [z]).getD [0]).getD 0 0
abbrev kd (i : Int) : Nat := addN 0 (mulN (IntKind.i64.wrap (i - 1)).toNat 1) + 0
abbrev rowE (es : List EV) (z : Int) : List ByteArray := [decText z, decText (cntM es z)]
theorem er_in (zs : List Int) (n : Nat) : F_ Tryd.prog L_er Tryd.f15 erA [] 99 [aS 0 n] ⟨[sI 0 zs], 1⟩ = some (.head (hd Tryd.f15 0) (erT n nilS 0) ⟨[sI 0 zs, erB, erH, erTb nilS, erM [], (5, none), (6, none), (7, none), (8, none), (9, none)], 40⟩ true) := by kernel_rfl
theorem er_n0 (zs : List Int) (n : Nat) (i : Int) (es : List EV) : HO_ Tryd.prog L_er Tryd.f15 erA [] 99 [1, 1] (hd Tryd.f15 0) (erT n nilS i) ⟨[sI 0 zs, erB, erH, erTb nilS, erM es], 5⟩ = some (.head (hd Tryd.f15 0) (erT n (bS 6 1) (IntKind.i64.wrap (i + 1))) ⟨[sI 0 zs, erB, erH, erTb nilS, erM (putM es [(zs.getD (iy i) 0)] [IntKind.i64.wrap (cntM es (zs.getD (iy i) 0) + 1)]), (5, some ⟨true, false, .cells [vi (zs.getD (iy i) 0)]⟩), oI 6 [(zs.getD (iy i) 0)], (7, none), (8, none), (9, none)], 40⟩ (conj [decide (i < Int.ofNat n), decide (0 ≤ i), decide (i.toNat < n), decide (iy i < zs.length), keysN 1 es, cntM es (zs.getD (iy i) 0) == 0, keysN 1 es, keysN 1 es])) := by kernel_rfl
theorem er_n1 (zs os : List Int) (n q : Nat) (i : Int) (es : List EV) : HO_ Tryd.prog L_er Tryd.f15 erA [] 99 [1, 1] (hd Tryd.f15 0) (erT n (bS 5 q) i) ⟨[sI 0 zs, erB, erH, erTb nilS, erM es, oI 5 os], 6⟩ = some (.head (hd Tryd.f15 0) (erT n (bS 7 (q + 1)) (IntKind.i64.wrap (i + 1))) ⟨[sI 0 zs, erB, erH, erTb nilS, erM (putM es [(zs.getD (iy i) 0)] [IntKind.i64.wrap (cntM es (zs.getD (iy i) 0) + 1)]), (5, none), (6, some ⟨true, false, .cells [vi (zs.getD (iy i) 0)]⟩), oI 7 (os.take q ++ [(zs.getD (iy i) 0)]), (8, none), (9, none)], 40⟩ (conj [decide (i < Int.ofNat n), decide (0 ≤ i), decide (i.toNat < n), decide (iy i < zs.length), keysN 1 es, cntM es (zs.getD (iy i) 0) == 0, decide (0 < q), decide ((q + 1) * 8 ≤ 140737488355328), decide (q ≤ os.length), keysN 1 es, keysN 1 es])) := by kernel_rfl
theorem er_s (zs os : List Int) (n q : Nat) (i : Int) (es : List EV) : HO_ Tryd.prog L_er Tryd.f15 erA [] 99 [1, 0] (hd Tryd.f15 0) (erT n (bS 5 q) i) ⟨[sI 0 zs, erB, erH, erTb nilS, erM es, oI 5 os], 6⟩ = some (.head (hd Tryd.f15 0) (erT n (bS 5 q) (IntKind.i64.wrap (i + 1))) ⟨[sI 0 zs, erB, erH, erTb nilS, erM (putM es [(zs.getD (iy i) 0)] [IntKind.i64.wrap (cntM es (zs.getD (iy i) 0) + 1)]), oI 5 os, (6, none), (7, none), (8, none), (9, none)], 40⟩ (conj [decide (i < Int.ofNat n), decide (0 ≤ i), decide (i.toNat < n), decide (iy i < zs.length), keysN 1 es, !(cntM es (zs.getD (iy i) 0) == 0), keysN 1 es, keysN 1 es])) := by kernel_rfl
theorem er_e (zs os : List Int) (n q : Nat) (i : Int) (es : List EV) : HO_ Tryd.prog L_er Tryd.f15 erCb [] 99 [0] (hd Tryd.f15 0) (erT n (bS 5 q) i) ⟨[sI 0 zs, erB, erH, erTb nilS, erM es, oI 5 os], 6⟩ = some (.head (hd Tryd.f15 1) (erT2 (bS 5 q) 1) ⟨[sI 0 zs, erB, erH, erTb nilS, erM es, oI 5 os, (6, none), (7, none), (8, none), (9, none)], 40⟩ (conj [!decide (i < Int.ofNat n)])) := by kernel_rfl
theorem er_b (zs os : List Int) (n q : Nat) (i : Int) (es : List EV) : HO_ Tryd.prog L_er Tryd.f15 erCc [] 99 [1] (hd Tryd.f15 1) (erT2 (bS 5 q) i) ⟨[sI 0 zs, erB, erH, erTb nilS, erM es, oI 5 os], 6⟩ = some (.head (hd Tryd.f15 2) (erT3 (bS 5 q) i i) ⟨[sI 0 zs, erB, erH, erTb nilS, erM es, oI 5 os, (6, none), (7, none), (8, none), (9, none)], 40⟩ (conj [decide (i < Int.ofNat q)])) := by kernel_rfl
theorem er_y (zs os : List Int) (n q : Nat) (i k : Int) (es : List EV) : HO_ Tryd.prog L_er Tryd.f15 erCc [] 99 [1] (hd Tryd.f15 2) (erT3 (bS 5 q) i k) ⟨[sI 0 zs, erB, erH, erTb nilS, erM es, oI 5 os], 6⟩ = some (.head (hd Tryd.f15 2) (erT3 (bS 5 q) i (IntKind.i64.wrap (k - 1))) ⟨[sI 0 zs, erB, erH, erTb nilS, erM es, oI 5 ((os.set (iy k) (os.getD (kd k) 0)).set (kd k) (os.getD (iy k) 0)), (6, none), (7, none), (8, none), (9, none)], 40⟩ (conj [!decide (0 < k) || decide (0 ≤ k), !decide (0 < k) || decide (k.toNat < q), !decide (0 < k) || decide (iy k < os.length), !decide (0 < k) || decide (0 ≤ IntKind.i64.wrap (k - 1)), !decide (0 < k) || decide ((IntKind.i64.wrap (k - 1)).toNat < q), !decide (0 < k) || decide (kd k < os.length), (bif decide (0 < k) then decide (os.getD (iy k) 0 < os.getD (kd k) 0) else false), decide (0 ≤ IntKind.i64.wrap (k - 1)), decide ((IntKind.i64.wrap (k - 1)).toNat < q), decide (kd k < os.length), decide (0 ≤ k), decide (k.toNat < q), decide (iy k < os.length), decide (0 ≤ k), decide (k.toNat < q), decide (iy k < os.length), decide (0 ≤ IntKind.i64.wrap (k - 1)), decide ((IntKind.i64.wrap (k - 1)).toNat < q), decide (kd k < (os.set (iy k) (os.getD (kd k) 0)).length)])) := by kernel_rfl
theorem er_z (zs os : List Int) (n q : Nat) (i k : Int) (es : List EV) : HO_ Tryd.prog L_er Tryd.f15 erCb [] 99 [0] (hd Tryd.f15 2) (erT3 (bS 5 q) i k) ⟨[sI 0 zs, erB, erH, erTb nilS, erM es, oI 5 os], 6⟩ = some (.head (hd Tryd.f15 1) (erT2 (bS 5 q) (IntKind.i64.wrap (i + 1))) ⟨[sI 0 zs, erB, erH, erTb nilS, erM es, oI 5 os, (6, none), (7, none), (8, none), (9, none)], 40⟩ (conj [!decide (0 < k) || decide (0 ≤ k), !decide (0 < k) || decide (k.toNat < q), !decide (0 < k) || decide (iy k < os.length), !decide (0 < k) || decide (0 ≤ IntKind.i64.wrap (k - 1)), !decide (0 < k) || decide ((IntKind.i64.wrap (k - 1)).toNat < q), !decide (0 < k) || decide (kd k < os.length), !(bif decide (0 < k) then decide (os.getD (iy k) 0 < os.getD (kd k) 0) else false)])) := by kernel_rfl
theorem er_be (zs os : List Int) (n q : Nat) (i : Int) (es : List EV) : HO_ Tryd.prog L_er Tryd.f15 erCd [] 99 [0] (hd Tryd.f15 1) (erT2 (bS 5 q) i) ⟨[sI 0 zs, erB, erH, erTb nilS, erM es, oI 5 os], 6⟩ = some (.head (hd Tryd.f15 3) (erT4 (bS 5 q) q 0) ⟨[sI 0 zs, erB, erH, erTb nilS, erM es, oI 5 os, (18, none)], 40⟩ (conj [!decide (i < Int.ofNat q)])) := by kernel_rfl
theorem er_r0 (zs os : List Int) (q : Nat) (i : Int) (es : List EV) : HO_ Tryd.prog L_er Tryd.f15 erCd [] 99 [1] (hd Tryd.f15 3) (erT4 (bS 5 q) q i) ⟨[sI 0 zs, erB, erH, erTb nilS, erM es, oI 5 os], 6⟩ = some (.head (hd Tryd.f15 3) (erT4 (bS 5 q) q (IntKind.i64.wrap (i + 1))) ⟨[sI 0 zs, erB, erH, erTb (bS 18 1), erM es, oI 5 os, oN 18 [rowE es (os.getD (iy i) 0)]], 40⟩ (conj [decide (i < Int.ofNat q), decide (0 ≤ i), decide (i.toNat < q), decide (iy i < os.length), keysN 1 es, inZ [(os.getD (iy i) 0), cntM es (os.getD (iy i) 0)]])) := by kernel_rfl
theorem er_r1 (zs os : List Int) (q r : Nat) (i : Int) (es : List EV) (rss : List (List ByteArray)) : HO_ Tryd.prog L_er Tryd.f15 (kc [2,3,4,73,74,75] [0,1,2,3,4,5,19] 40) [] 99 [1] (hd Tryd.f15 3) (erT4 (bS 5 q) q i) ⟨[sI 0 zs, erB, erH, erTb (bS 6 r), erM es, oI 5 os, oN 6 rss], 7⟩ = some (.head (hd Tryd.f15 3) (erT4 (bS 5 q) q (IntKind.i64.wrap (i + 1))) ⟨[sI 0 zs, erB, erH, erTb (bS 19 (r + 1)), erM es, oI 5 os, oN 19 (rss ++ [rowE es (os.getD (iy i) 0)])], 40⟩ (conj [decide (i < Int.ofNat q), decide (0 ≤ i), decide (i.toNat < q), decide (iy i < os.length), keysN 1 es, inZ [(os.getD (iy i) 0), cntM es (os.getD (iy i) 0)], Nat.beq r rss.length, decide (0 < r), decide ((r + 1) * 24 ≤ 140737488355328)])) := by kernel_rfl
theorem er_re (zs os : List Int) (q r : Nat) (i : Int) (es : List EV) (rss : List (List ByteArray)) : HO_ Tryd.prog L_er Tryd.f15 erCd [2, 6] 99 [0] (hd Tryd.f15 3) (erT4 (bS 5 q) q i) ⟨[sI 0 zs, erB, erH, erTb (bS 6 r), erM es, oI 5 os, oN 6 rss], 7⟩ = some (.ret (.agg [hd2, bS 6 r]) ⟨[erH, oN 6 rss], 99⟩ (conj [!decide (i < Int.ofNat q)])) := by kernel_rfl
theorem er_none : FO_ Tryd.prog L_er Tryd.f15 [] [2] 99 [0, 0, 0] [aS 0 0] ⟨[sI 0 []], 1⟩ = some (.ret (.agg [hd2, nilS]) ⟨[erH], 99⟩ true) := by kernel_rfl
end Go.Proofs.YtbjealobiblabaaDoor

namespace Go.Proofs.YtbjealobiblabaaDoor
open Go Go.RowKit Go.Shelf
def evs (o p : List Int) : List EV := o.map fun z => ([z], [(p.count z : Int)])
theorem find_no {p : List Int} {z : Int} : ∀ (o : List Int) (i : Nat), z ∉ o → findM [z] (evs o p) i = none
  | [], _, _ => rfl
  | y :: o, i, h => by
    simp only [List.mem_cons, not_or] at h
    have e : ¬ ([z] : List Int) = [y] := fun e => h.1 (by simpa using e)
    show findM [z] (([y], [(p.count y : Int)]) :: evs o p) i = none
    simp only [findM, decide_eq_false e]
    exact find_no o (i + 1) h.2
theorem find_yes {p : List Int} {z : Int} : ∀ (o : List Int) (i : Nat), z ∈ o → ∃ j, findM [z] (evs o p) i = some (i + j, [(p.count z : Int)]) ∧ o[j]? = some z
  | [], _, h => by cases h
  | y :: o, i, h => by
    by_cases e : y = z
    · subst e
      exact ⟨0, by show findM [y] (([y], [(p.count y : Int)]) :: evs o p) i = _; simp [findM], rfl⟩
    · have h : z ∈ o := by
        rcases List.mem_cons.1 h with h | h
        · exact absurd h.symm e
        · exact h
      obtain ⟨j, h1, h2⟩ := find_yes (p := p) o (i + 1) h
      have e2 : ¬ ([z] : List Int) = [y] := fun h => e (by simpa using h.symm)
      refine ⟨j + 1, ?_, by simpa using h2⟩
      show findM [z] (([y], [(p.count y : Int)]) :: evs o p) i = _
      simp only [findM, decide_eq_false e2]
      rw [h1, show i + 1 + j = i + (j + 1) by omega]
theorem cnt_no {o p : List Int} {z : Int} (h : z ∉ o) : cntM (evs o p) z = 0 := by
  unfold cntM lookM
  rw [find_no o 0 h]; rfl
theorem cnt_yes {o p : List Int} {z : Int} (h : z ∈ o) : cntM (evs o p) z = (p.count z : Int) := by
  obtain ⟨j, h1, _⟩ := find_yes (p := p) o 0 h
  unfold cntM lookM
  rw [h1]; rfl
theorem evs_keys (o p : List Int) : keysN 1 (evs o p) = true := by
  unfold keysN evs
  rw [List.all_eq_true]
  intro e he
  obtain ⟨z, _, rfl⟩ := List.mem_map.1 he
  rfl
theorem put_no {o p : List Int} {z : Int} (h : z ∉ o) (hp : z ∉ p) (v : Int) (hv : v = 1) : putM (evs o p) [z] [v] = evs (o ++ [z]) (p ++ [z]) := by
  have e : putM (evs o p) [z] [v] = evs o p ++ [([z], [v])] := by
    unfold putM
    rw [find_no o 0 h]
  rw [e]
  subst hv
  unfold evs
  rw [List.map_append]
  congr 1
  · apply List.map_congr_left
    intro y hy
    have : y ≠ z := fun e => h (e ▸ hy)
    rw [List.count_append, List.count_singleton]
    simp [Ne.symm this]
  · simp [List.count_append, List.count_eq_zero_of_not_mem hp]
theorem put_yes {o p : List Int} {z : Int} (hn : o.Nodup) (h : z ∈ o) (v : Int) (hv : v = (p.count z : Int) + 1) : putM (evs o p) [z] [v] = evs o (p ++ [z]) := by
  obtain ⟨j, h1, h2⟩ := find_yes (p := p) o 0 h
  unfold putM
  rw [h1, Nat.zero_add]
  subst hv
  obtain ⟨hj, hz⟩ := List.getElem?_eq_some_iff.1 h2
  apply List.ext_getElem (by simp [evs])
  intro k k1 k2
  have hk : k < o.length := by simpa [evs] using k2
  rw [List.getElem_set]
  simp only [evs, List.getElem_map]
  by_cases e : j = k
  · subst e
    rw [if_pos rfl, hz]
    simp [List.count_append]
  · rw [if_neg e]
    have : o[k] ≠ z := fun h => by
      have hn' := List.pairwise_iff_getElem.1 hn
      rcases Nat.lt_or_gt_of_ne e with hlt | hlt
      · exact hn' j k hj hk hlt (hz.trans h.symm)
      · exact hn' k j hk hj hlt (h.trans hz.symm)
    simp [List.count_append, List.count_singleton, Ne.symm this]
/-- One that is put in its place. -/
def insT : List Int → Int → List Int → List Int
  | [], x, A => x :: A
  | y :: r, x, A => if x < y then insT r x (y :: A) else (y :: r).reverse ++ x :: A
theorem insT_ok : ∀ (r : List Int) (x : Int) (A : List Int), (r.reverse ++ A).Pairwise (· < ·) → (∀ a ∈ A, x < a) → x ∉ r → (insT r x A).Pairwise (· < ·) ∧ (∀ z, z ∈ insT r x A ↔ z = x ∨ z ∈ r ∨ z ∈ A) ∧ (insT r x A).length = r.length + A.length + 1
  | [], x, A, h, hA, _ => by
    refine ⟨List.pairwise_cons.2 ⟨hA, by simpa using h⟩, fun z => by simp [insT], by simp [insT]⟩
  | y :: r, x, A, h, hA, hx => by
    simp only [List.mem_cons, not_or] at hx
    unfold insT
    by_cases hxy : x < y
    · rw [if_pos hxy]
      have h' : (r.reverse ++ y :: A).Pairwise (· < ·) := by simpa using h
      obtain ⟨a, b, c⟩ := insT_ok r x (y :: A) h' (fun a ha => by
        rcases List.mem_cons.1 ha with rfl | ha
        · exact hxy
        · exact hA a ha) hx.2
      refine ⟨a, fun z => ?_, by rw [c]; simp; omega⟩
      rw [b]
      simp only [List.mem_cons]
      constructor
      · rintro (h | h | h | h)
        · exact .inl h
        · exact .inr (.inl (.inr h))
        · exact .inr (.inl (.inl h))
        · exact .inr (.inr h)
      · rintro (h | (h | h) | h)
        · exact .inl h
        · exact .inr (.inr (.inl h))
        · exact .inr (.inl h)
        · exact .inr (.inr (.inr h))
    · rw [if_neg hxy]
      obtain ⟨p1, p2, p3⟩ := List.pairwise_append.1 h
      have hyx : y < x := by omega
      have hall : ∀ a ∈ (y :: r).reverse, a ≤ y := fun a ha => by
        rw [List.reverse_cons] at ha p1
        rcases List.mem_append.1 ha with ha | ha
        · exact Int.le_of_lt ((List.pairwise_append.1 p1).2.2 a ha y (by simp))
        · simp at ha; omega
      refine ⟨List.pairwise_append.2 ⟨p1, List.pairwise_cons.2 ⟨hA, p2⟩, fun a ha b hb => ?_⟩, fun z => ?_, by simp; omega⟩
      · rcases List.mem_cons.1 hb with rfl | hb
        · have := hall a ha; omega
        · exact p3 a ha b hb
      · simp only [List.mem_append, List.mem_reverse, List.mem_cons]
        constructor
        · rintro (h | h | h)
          · exact .inr (.inl h)
          · exact .inl h
          · exact .inr (.inr h)
        · rintro (h | h | h)
          · exact .inr (.inl h)
          · exact .inl h
          · exact .inr (.inr h)
/-- Two rising lists of the same numbers are the same. -/
theorem rise_eq : ∀ (a b : List Int), a.Pairwise (· < ·) → b.Pairwise (· < ·) → (∀ z, z ∈ a ↔ z ∈ b) → a = b
  | [], [], _, _, _ => rfl
  | [], y :: b, _, _, h => absurd ((h y).2 (by simp)) (by simp)
  | x :: a, [], _, _, h => absurd ((h x).1 (by simp)) (by simp)
  | x :: a, y :: b, ha, hb, h => by
    obtain ⟨a1, a2⟩ := List.pairwise_cons.1 ha
    obtain ⟨b1, b2⟩ := List.pairwise_cons.1 hb
    have e : x = y := by
      have h1 := (h x).1 (by simp)
      have h2 := (h y).2 (by simp)
      rcases List.mem_cons.1 h1 with h1 | h1
      · exact h1
      · rcases List.mem_cons.1 h2 with h2 | h2
        · exact h2.symm
        · have := b1 x h1; have := a1 y h2; omega
    subst e
    congr 1
    refine rise_eq a b a2 b2 fun z => ?_
    constructor
    · intro hz
      rcases List.mem_cons.1 ((h z).1 (List.mem_cons_of_mem _ hz)) with e | hz'
      · have := a1 z hz; omega
      · exact hz'
    · intro hz
      rcases List.mem_cons.1 ((h z).2 (List.mem_cons_of_mem _ hz)) with e | hz'
      · have := b1 z hz; omega
      · exact hz'
/-- The numbers of a list, rising, each once. -/
def Rise (L l : List Int) : Prop := L.Pairwise (· < ·) ∧ ∀ z, z ∈ L ↔ z ∈ l
theorem rise_unique {L M l : List Int} (h : Rise L l) (g : Rise M l) : L = M := rise_eq L M h.1 g.1 fun z => (h.2 z).trans (g.2 z).symm
theorem rise_nodup {L : List Int} (h : L.Pairwise (· < ·)) : L.Nodup := h.imp fun h e => by omega
/-- What is told of errors: each number, and how often. -/
def rowsE (L l : List Int) : List (List ByteArray) := L.map fun z => [decText z, decText (l.count z : Int)]
end Go.Proofs.YtbjealobiblabaaDoor

namespace Go.Proofs.YtbjealobiblabaaDoor
open Go Go.RowKit Go.Shelf
set_option maxRecDepth 100000
abbrev erS (zs : List Int) : List (Nat × Option ABlk) := [sI 0 zs, erB, erH, erTb nilS]
theorem get_mid {r T : List Int} {x : Int} : (r.reverse ++ x :: T).getD r.length 0 = x := by
  rw [List.getD_eq_getElem?_getD, List.getElem?_append_right (by simp)]; simp
theorem get_pre {r T : List Int} {x y : Int} : ((y :: r).reverse ++ x :: T).getD r.length 0 = y := by
  rw [List.reverse_cons, List.append_assoc]
  exact get_mid
theorem set_swap {r T : List Int} {x y : Int} : (((y :: r).reverse ++ x :: T).set (r.length + 1) y).set r.length x = r.reverse ++ x :: (y :: T) := by
  rw [List.reverse_cons, List.append_assoc, List.set_append_right _ _ (by simp), List.set_append_right _ _ (by simp)]
  simp
/-- One goes to its place. -/
theorem er_down (zs : List Int) (es : List EV) (q i : Nat) (hq : q ≤ 1000) (x : Int) (C : List Int) : ∀ (r A : List Int), r.length + 1 + A.length + C.length = q → r.length ≤ i → i < q →
    Goes Tryd.prog 1 ⟨hd Tryd.f15 2, erT3 (bS 5 q) i (r.length : Int), ⟨erS zs ++ [erM es, oI 5 (r.reverse ++ x :: (A ++ C))], 6⟩⟩ ⟨hd Tryd.f15 1, erT2 (bS 5 q) ((i + 1 : Nat) : Int), ⟨erS zs ++ [erM es, oI 5 (insT r x A ++ C)], 6⟩⟩
  | [], A, hl, hi, hiq => by
    have h := er_z zs (([] : List Int).reverse ++ x :: (A ++ C)) 0 q i ((([] : List Int).length : Nat) : Int) es
    rw [upY (by omega), conj_ty (by simp)] at h
    exact (HO_head hE_er mixedY rfl h rfl).trans (Goes.ren (P := Tryd.prog) (B := 1) (σ := [(0, 0), (1, 1), (2, 2), (3, 3), (4, 4), (5, 5)]) (nx := 6) rfl)
  | y :: r, A, hl, hi, hiq => by
    simp only [List.length_cons] at hl hi
    have e0 : ((y :: r).reverse ++ x :: (A ++ C)).getD (r.length + 1) 0 = x := get_mid (r := y :: r)
    have e1 : ((y :: r).reverse ++ x :: (A ++ C)).getD r.length 0 = y := get_pre
    have ek : (((y :: r).length : Nat) : Int) = ((r.length + 1 : Nat) : Int) := rfl
    have ew : IntKind.i64.wrap (((r.length + 1 : Nat) : Int) - 1) = (r.length : Int) := by rw [wrapI (by omega) (by omega)]; omega
    have ed : kd ((r.length + 1 : Nat) : Int) = r.length := by unfold kd; rw [ew, addN_eq, mulN_eq, Int.toNat_natCast]; omega
    have hlen : ((y :: r).reverse ++ x :: (A ++ C)).length = q := by simp; omega
    have p0 : (0 : Int) < ((r.length + 1 : Nat) : Int) := by omega
    rw [ek]
    by_cases hxy : x < y
    · have h := er_y zs ((y :: r).reverse ++ x :: (A ++ C)) 0 q i ((r.length + 1 : Nat) : Int) es
      rw [ew, ed, iy_nat, e0, e1, set_swap] at h
      rw [conj_ty (by simp only [List.all_cons, List.all_nil, id, Bool.and_true, Bool.and_eq_true, decide_eq_true_eq, hlen, decide_eq_true p0, Bool.not_true, Bool.false_or, cond_true, List.length_set, Int.toNat_natCast]; exact ⟨by omega, by omega, by omega, by omega, by omega, by omega, hxy, by omega, by omega, by omega, by omega, by omega, by omega, by omega, by omega, by omega, by omega, by omega, by omega⟩)] at h
      have e : insT (y :: r) x A = insT r x (y :: A) := by conv => lhs; unfold insT; rw [if_pos hxy]
      rw [e]
      exact ((HO_head hE_er mixedY rfl h rfl).trans (Goes.ren (P := Tryd.prog) (B := 1) (σ := [(0, 0), (1, 1), (2, 2), (3, 3), (4, 4), (5, 5)]) (nx := 6) rfl)).trans (er_down zs es q i hq x C r (y :: A) (by simp only [List.length_cons]; omega) (by omega) hiq)
    · have h := er_z zs ((y :: r).reverse ++ x :: (A ++ C)) 0 q i ((r.length + 1 : Nat) : Int) es
      rw [upY (by omega), ew, ed, iy_nat, e0, e1] at h
      rw [conj_ty (by simp only [List.all_cons, List.all_nil, id, Bool.and_true, Bool.and_eq_true, decide_eq_true_eq, hlen, decide_eq_true p0, Bool.not_true, Bool.false_or, cond_true, Int.toNat_natCast, Bool.not_eq_true', decide_eq_false_iff_not]; exact ⟨by omega, by omega, by omega, by omega, by omega, by omega, hxy⟩)] at h
      have e : insT (y :: r) x A ++ C = (y :: r).reverse ++ x :: (A ++ C) := by unfold insT; rw [if_neg hxy]; simp
      rw [e]
      exact (HO_head hE_er mixedY rfl h rfl).trans (Goes.ren (P := Tryd.prog) (B := 1) (σ := [(0, 0), (1, 1), (2, 2), (3, 3), (4, 4), (5, 5)]) (nx := 6) rfl)
/-- The numbers come in order. -/
theorem er_sort (zs : List Int) (es : List EV) (q : Nat) (hq : q ≤ 1000) (o : List Int) : ∀ (R S : List Int), S.length + R.length = q → S.Pairwise (· < ·) → (S ++ R).Nodup → (∀ z, z ∈ S ++ R ↔ z ∈ o) →
    ∃ T, T.Pairwise (· < ·) ∧ (∀ z, z ∈ T ↔ z ∈ o) ∧ T.length = q ∧ Goes Tryd.prog 1 ⟨hd Tryd.f15 1, erT2 (bS 5 q) (S.length : Int), ⟨erS zs ++ [erM es, oI 5 (S ++ R)], 6⟩⟩ ⟨hd Tryd.f15 3, erT4 (bS 5 q) q 0, ⟨erS zs ++ [erM es, oI 5 T], 6⟩⟩
  | [], S, hl, hS, hn, hm => by
    simp only [List.length_nil, Nat.add_zero] at hl
    rw [List.append_nil] at hm ⊢
    refine ⟨S, hS, hm, hl, ?_⟩
    have h := er_be zs S 0 q (S.length : Int) es
    rw [conj_ty (by simp; omega)] at h
    exact (HO_head hE_er mixedY rfl h rfl).trans (Goes.ren (P := Tryd.prog) (B := 1) (σ := [(0, 0), (1, 1), (2, 2), (3, 3), (4, 4), (5, 5)]) (nx := 6) rfl)
  | x :: R, S, hl, hS, hn, hm => by
    simp only [List.length_cons] at hl
    obtain ⟨n1, n2, n3⟩ := List.pairwise_append.1 hn
    have hx : x ∉ S.reverse := fun h => n3 x (List.mem_reverse.1 h) x (by simp) rfl
    obtain ⟨a, b, c⟩ := insT_ok S.reverse x [] (by simpa using hS) (by simp) hx
    have hb : ∀ z, z ∈ insT S.reverse x [] ↔ z = x ∨ z ∈ S := fun z => by rw [b]; simp
    have hlen : (insT S.reverse x []).length = S.length + 1 := by rw [c]; simp
    obtain ⟨T, t1, t2, t3, g⟩ := er_sort zs es q hq o R (insT S.reverse x []) (by omega) a (by
      refine List.pairwise_append.2 ⟨rise_nodup a, (List.pairwise_cons.1 n2).2, fun u hu v hv => ?_⟩
      rcases (hb u).1 hu with rfl | hu
      · exact (List.pairwise_cons.1 n2).1 v hv
      · exact n3 u hu v (List.mem_cons_of_mem _ hv)) (fun z => by
      rw [← hm z]
      simp only [List.mem_append, List.mem_cons, hb]
      constructor
      · rintro ((h | h) | h)
        · exact .inr (.inl h)
        · exact .inl h
        · exact .inr (.inr h)
      · rintro (h | h | h)
        · exact .inl (.inr h)
        · exact .inl (.inl h)
        · exact .inr h)
    refine ⟨T, t1, t2, t3, Goes.trans ?_ g⟩
    have h := er_b zs (S ++ x :: R) 0 q (S.length : Int) es
    rw [conj_ty (by simp; omega)] at h
    have d := er_down zs es q S.length hq x R S.reverse [] (by simp; omega) (by simp) (by omega)
    rw [List.reverse_reverse, List.nil_append, List.length_reverse] at d
    rw [hlen]
    exact ((HO_head hE_er mixedY rfl h rfl).trans (Goes.ren (P := Tryd.prog) (B := 1) (σ := [(0, 0), (1, 1), (2, 2), (3, 3), (4, 4), (5, 5)]) (nx := 6) rfl)).trans d
/-- The rows. -/
theorem er_rows (zs o L : List Int) (hz : inZ zs = true) (hn : zs.length ≤ 60) (hL : ∀ z, z ∈ L ↔ z ∈ zs) (ho : ∀ z, z ∈ o ↔ z ∈ zs) (hl : L.length ≤ 1000) : ∀ (f i : Nat), i + f = L.length → 0 < i →
    Gives_ Tryd.prog Tryd.f15 1 ⟨hd Tryd.f15 3, erT4 (bS 5 L.length) L.length i, ⟨[sI 0 zs, erB, erH, erTb (bS 6 i), erM (evs o zs), oI 5 L, oN 6 (rowsE (L.take i) zs)], 7⟩⟩ (.agg [hd2, bS 6 L.length]) ⟨[erH, oN 6 (rowsE L zs)], 99⟩
  | 0, i, hi, h0 => by
    have e : i = L.length := by omega
    subst e
    have h := er_re zs L L.length L.length (L.length : Int) (evs o zs) (rowsE (L.take L.length) zs)
    rw [conj_ty (by simp)] at h
    rw [List.take_length] at h ⊢
    exact HO_ret hE_er mixedY rfl h rfl
  | f + 1, i, hi, h0 => by
    have hlt : i < L.length := by omega
    have hm : L[i] ∈ zs := (hL _).1 (List.getElem_mem hlt)
    obtain ⟨j, hj, ej⟩ := List.mem_iff_getElem.1 hm
    obtain ⟨z0, z1⟩ := inZ_at hz hj
    rw [ej] at z0 z1
    have hc : cntM (evs o zs) L[i] = (zs.count L[i] : Int) := cnt_yes ((ho _).2 hm)
    have hcl : zs.count L[i] ≤ 60 := Nat.le_trans List.count_le_length hn
    have h := er_r1 zs L L.length i (i : Int) (evs o zs) (rowsE (L.take i) zs)
    have er : rowsE (L.take i) zs ++ [rowE (evs o zs) L[i]] = rowsE (L.take (i + 1)) zs := by
      have hrow : rowE (evs o zs) L[i] = [decText L[i], decText (zs.count L[i] : Int)] := by unfold rowE; rw [hc]
      unfold rowsE
      rw [List.take_succ_eq_append_getElem hlt, List.map_append, hrow]; rfl
    have hrl : (rowsE (L.take i) zs).length = i := by unfold rowsE; simp; omega
    rw [upY (by omega), iy_nat, gd hlt, er] at h
    rw [conj_ty (by
      rw [hc, hrl, evs_keys]
      simp only [List.all_cons, List.all_nil, id, Bool.and_true, Bool.and_eq_true, decide_eq_true_eq, Nat.beq_refl, inZ]
      exact ⟨by simpa using hlt, by omega, hlt, hlt, trivial, ⟨⟨z0, z1⟩, by omega, by omega⟩, trivial, h0, by omega⟩)] at h
    exact Goes.gives ((HO_head hE_er mixedY rfl h rfl).trans (Goes.ren (P := Tryd.prog) (B := 1) (σ := [(0, 0), (1, 1), (2, 2), (3, 3), (4, 4), (5, 5), (6, 19)]) (nx := 7) rfl)) (er_rows zs o L hz hn hL ho hl f (i + 1) (by omega) (by omega))
theorem er_tail (zs o L : List Int) (hz : inZ zs = true) (hn : zs.length ≤ 60) (hr : Rise L zs) (hno : o.Nodup) (ho : ∀ z, z ∈ o ↔ z ∈ zs) (hol : o.length ≤ 60) (h0 : 0 < o.length) :
    Gives_ Tryd.prog Tryd.f15 1 ⟨hd Tryd.f15 1, erT2 (bS 5 o.length) 1, ⟨erS zs ++ [erM (evs o zs), oI 5 o], 6⟩⟩ (.agg [hd2, bS 6 L.length]) ⟨[erH, oN 6 (rowsE L zs)], 99⟩ := by
  obtain ⟨x, R, rfl⟩ : ∃ x R, o = x :: R := by
    cases o with
    | nil => cases h0
    | cons x R => exact ⟨x, R, rfl⟩
  obtain ⟨T, t1, t2, t3, g⟩ := er_sort zs (evs (x :: R) zs) (x :: R).length (by omega) (x :: R) R [x] (by simp [Nat.add_comm]) (by simp) (by simpa using hno) (fun z => by simp)
  have e : T = L := rise_unique (l := zs) ⟨t1, fun z => (t2 z).trans (ho z)⟩ hr
  subst e
  refine Goes.gives g ?_
  rw [← t3]
  have hl0 : 0 < T.length := by rw [t3]; exact h0
  have hm : T[0] ∈ zs := (hr.2 _).1 (List.getElem_mem hl0)
  obtain ⟨j, hj, ej⟩ := List.mem_iff_getElem.1 hm
  obtain ⟨z0, z1⟩ := inZ_at hz hj
  rw [ej] at z0 z1
  have hc : cntM (evs (x :: R) zs) T[0] = (zs.count T[0] : Int) := cnt_yes ((ho _).2 hm)
  have hcl : zs.count T[0] ≤ 60 := Nat.le_trans List.count_le_length hn
  have h := er_r0 zs T T.length 0 (evs (x :: R) zs)
  have e3 : T.getD (iy 0) 0 = T[0] := gd hl0
  have er : [rowE (evs (x :: R) zs) T[0]] = rowsE (T.take 1) zs := by
    have : T.take 1 = [T[0]] := by rw [List.take_succ_eq_append_getElem hl0]; simp
    rw [this]
    unfold rowE
    rw [hc]; rfl
  rw [e3, er] at h
  rw [conj_ty (by
    have : iy 0 = 0 := rfl
    rw [hc, evs_keys, this]
    simp only [List.all_cons, List.all_nil, id, Bool.and_true, Bool.and_eq_true, decide_eq_true_eq, inZ]
    exact ⟨by simpa using hl0, by omega, hl0, hl0, trivial, ⟨⟨z0, z1⟩, by omega, by omega⟩⟩)] at h
  exact Goes.gives ((HO_head hE_er mixedY rfl h rfl).trans (Goes.ren (P := Tryd.prog) (B := 1) (σ := [(0, 0), (1, 1), (2, 2), (3, 3), (4, 4), (5, 5), (6, 18)]) (nx := 7) rfl)) (er_rows zs (x :: R) T hz hn hr.2 ho (by omega) (T.length - 1) 1 (by omega) (by omega))
theorem er_count (zs L : List Int) (hz : inZ zs = true) (hn : zs.length ≤ 60) (hr : Rise L zs) : ∀ (f i : Nat) (o : List Int), i + f = zs.length → 0 < i → o.Nodup → (∀ z, z ∈ o ↔ z ∈ zs.take i) → o.length ≤ i → 0 < o.length →
    Gives_ Tryd.prog Tryd.f15 1 ⟨hd Tryd.f15 0, erT zs.length (bS 5 o.length) i, ⟨erS zs ++ [erM (evs o (zs.take i)), oI 5 o], 6⟩⟩ (.agg [hd2, bS 6 L.length]) ⟨[erH, oN 6 (rowsE L zs)], 99⟩
  | 0, i, o, hi, h0, hno, ho, hol, ho0 => by
    have h := er_e zs o zs.length o.length (i : Int) (evs o (zs.take i))
    rw [conj_ty (by simp; omega)] at h
    rw [List.take_of_length_le (by omega)] at h ho ⊢
    exact Goes.gives ((HO_head hE_er mixedY rfl h rfl).trans (Goes.ren (P := Tryd.prog) (B := 1) (σ := [(0, 0), (1, 1), (2, 2), (3, 3), (4, 4), (5, 5)]) (nx := 6) rfl)) (er_tail zs o L hz hn hr hno ho (by omega) ho0)
  | f + 1, i, o, hi, h0, hno, ho, hol, ho0 => by
    have hlt : i < zs.length := by omega
    have hts : zs.take (i + 1) = zs.take i ++ [zs[i]] := List.take_succ_eq_append_getElem hlt
    have hcl : (zs.take i).count zs[i] ≤ 60 := Nat.le_trans List.count_le_length (by simp; omega)
    by_cases hz' : zs[i] ∈ o
    · have hc := cnt_yes (p := zs.take i) hz'
      have hpos : 0 < (zs.take i).count zs[i] := List.count_pos_iff.2 ((ho _).1 hz')
      have h := er_s zs o zs.length o.length (i : Int) (evs o (zs.take i))
      rw [upY (by omega), iy_nat, gd hlt, hc, wrapI (by omega) (by omega), put_yes hno hz' _ rfl, ← hts] at h
      rw [conj_ty (by
        rw [evs_keys]
        simp [hlt]; omega)] at h
      refine Goes.gives ((HO_head hE_er mixedY rfl h rfl).trans (Goes.ren (P := Tryd.prog) (B := 1) (σ := [(0, 0), (1, 1), (2, 2), (3, 3), (4, 4), (5, 5)]) (nx := 6) rfl)) (er_count zs L hz hn hr f (i + 1) o (by omega) (by omega) hno (fun z => ?_) (by omega) ho0)
      rw [hts, List.mem_append, ← ho z, List.mem_singleton]
      exact ⟨.inl, fun h => h.elim id fun e => e ▸ hz'⟩
    · have hc := cnt_no (p := zs.take i) hz'
      have hzp : zs[i] ∉ zs.take i := fun h => hz' ((ho _).2 h)
      have h := er_n1 zs o zs.length o.length (i : Int) (evs o (zs.take i))
      rw [upY (by omega), iy_nat, gd hlt, hc, put_no hz' hzp _ (by decide), ← hts, List.take_length] at h
      rw [conj_ty (by
        rw [evs_keys]
        simp [hlt]; omega)] at h
      have hl1 : o.length + 1 = (o ++ [zs[i]]).length := by simp
      rw [hl1] at h
      refine Goes.gives ((HO_head hE_er mixedY rfl h rfl).trans (Goes.ren (P := Tryd.prog) (B := 1) (σ := [(0, 0), (1, 1), (2, 2), (3, 3), (4, 4), (5, 7)]) (nx := 6) rfl)) (er_count zs L hz hn hr f (i + 1) (o ++ [zs[i]]) (by omega) (by omega) ?_ (fun z => ?_) (by simp; omega) (by simp))
      · exact List.pairwise_append.2 ⟨hno, by simp, fun a ha b hb => by rw [List.mem_singleton.1 hb]; exact fun e => hz' (e ▸ ha)⟩
      · rw [hts, List.mem_append, List.mem_append, ho z]
theorem er_all (zs L : List Int) (hz : inZ zs = true) (hn : zs.length ≤ 60) (hr : Rise L zs) (h0 : 0 < zs.length) :
    Gives_ Tryd.prog Tryd.f15 1 (enterA Tryd.f15 (bodyOf Tryd.f15) [aS 0 zs.length] ⟨[sI 0 zs], 1⟩) (.agg [hd2, bS 6 L.length]) ⟨[erH, oN 6 (rowsE L zs)], 99⟩ := by
  have g0 := (F_head (f := Tryd.f15) (c := bodyOf Tryd.f15) (m := ⟨[sI 0 zs], 1⟩) hE_er mixedY rfl rfl (er_in zs zs.length)).trans (Goes.ren (P := Tryd.prog) (B := 1) (σ := [(0, 0), (1, 1), (2, 2), (3, 3), (4, 4)]) (nx := 5) rfl)
  have h := er_n0 zs zs.length 0 []
  have e3 : zs.getD (iy 0) 0 = zs[0] := gd h0
  have hts : zs.take 1 = [zs[0]] := by rw [List.take_succ_eq_append_getElem h0]; simp
  have hp := put_no (o := []) (p := []) (z := zs[0]) (by simp) (by simp) 1 rfl
  have hc : cntM [] zs[0] = 0 := rfl
  rw [e3, hc] at h
  rw [conj_ty (by have : iy 0 = 0 := rfl
                  rw [this]; simp [h0, keysN])] at h
  refine Goes.gives g0 (Goes.gives ((HO_head hE_er mixedY rfl h rfl).trans (Goes.ren (P := Tryd.prog) (B := 1) (σ := [(0, 0), (1, 1), (2, 2), (3, 3), (4, 4), (5, 6)]) (nx := 6) rfl)) ?_)
  have g := er_count zs L hz hn hr (zs.length - 1) 1 [zs[0]] (by omega) (by omega) (by simp) (fun z => by rw [hts]) (by simp) (by simp)
  rw [hts, ← show putM [] [zs[0]] [1] = evs [zs[0]] [zs[0]] from hp] at g
  exact g
end Go.Proofs.YtbjealobiblabaaDoor

namespace Go.Proofs.YtbjealobiblabaaDoor
open Go Go.RowKit Go.Shelf
set_option maxRecDepth 100000
abbrev L_re : List (FuncId × Spec) := [(20, e_cells)]
theorem hE_re : ESound Tryd.prog (envOf L_re) := env_cons ok_cb env_nil
abbrev reC0 (v : List Nat) : List Cut := kc v [0,1,4] 20
abbrev reA (n : Nat) (o : AV) (last : Int) (first : Bool) : List AV := [aS 0 n, .unk, .unk, o, vi last, vb first] ++ List.replicate 61 .unk
abbrev reB (n : Nat) (o : AV) (last : Int) (first : Bool) (next : Int) (found : Bool) (i : Int) : List AV := [aS 0 n, .unk, .unk, o, vi last, vb first, vi next, vb found, vi i] ++ List.replicate 58 .unk
abbrev reD (n : Nat) (o : AV) (next : Int) (k i : Int) : List AV := [aS 0 n, .unk, .unk, o, .unk, .unk, vi next, .unk, .unk, vi k, vi i] ++ List.replicate 56 .unk
abbrev pz (first : Bool) (last z : Int) : Bool := bif first then true else decide (last < z)
abbrev qz (found : Bool) (next z : Int) : Bool := bif !found then true else decide (z < next)
theorem re_in (zs : List Int) (n : Nat) : F_ Tryd.prog L_re Tryd.f16 (reC0 [0,3,4,5]) [] 99 [aS 0 n] ⟨[sI 0 zs], 1⟩ = some (.head (hd Tryd.f16 0) (reA n nilS 0 true) ⟨[sI 0 zs, (1, none), (4, none)], 20⟩ true) := by kernel_rfl
theorem re_a0 (zs : List Int) (n : Nat) (last next : Int) (first found : Bool) (i : Int) : HO_ Tryd.prog L_re Tryd.f16 (reC0 [0,3,4,5,6,7,8]) [] 99 [] (hd Tryd.f16 0) (reA n nilS last first) ⟨[sI 0 zs], 1⟩ = some (.head (hd Tryd.f16 1) (reB n nilS last first 0 false 0) ⟨[sI 0 zs, (1, none), (4, none)], 20⟩ true) := by kernel_rfl
theorem re_y0 (zs : List Int) (n : Nat) (last next : Int) (first found : Bool) (i : Int) : HO_ Tryd.prog L_re Tryd.f16 (reC0 [0,3,4,5,6,7,8]) [] 99 [1, 1] (hd Tryd.f16 1) (reB n nilS last first next found i) ⟨[sI 0 zs], 1⟩ = some (.head (hd Tryd.f16 1) (reB n nilS last first (zs.getD (iy i) 0) true (IntKind.i64.wrap (i + 1))) ⟨[sI 0 zs, (1, none), (4, none)], 20⟩ (conj [decide (i < Int.ofNat n), !!first || decide (0 ≤ i), !!first || decide (i.toNat < n), !!first || decide (iy i < zs.length), !((bif first then true else decide (last < zs.getD (iy i) 0)) && !!found) || decide (0 ≤ i), !((bif first then true else decide (last < zs.getD (iy i) 0)) && !!found) || decide (i.toNat < n), !((bif first then true else decide (last < zs.getD (iy i) 0)) && !!found) || decide (iy i < zs.length), (bif bif first then true else decide (last < zs.getD (iy i) 0) then bif !found then true else decide (zs.getD (iy i) 0 < next) else false), decide (0 ≤ i), decide (i.toNat < n), decide (iy i < zs.length)])) := by kernel_rfl
theorem re_n0 (zs : List Int) (n : Nat) (last next : Int) (first found : Bool) (i : Int) : HO_ Tryd.prog L_re Tryd.f16 (reC0 [0,3,4,5,6,7,8]) [] 99 [1, 0] (hd Tryd.f16 1) (reB n nilS last first next found i) ⟨[sI 0 zs], 1⟩ = some (.head (hd Tryd.f16 1) (reB n nilS last first next found (IntKind.i64.wrap (i + 1))) ⟨[sI 0 zs, (1, none), (4, none)], 20⟩ (conj [decide (i < Int.ofNat n), !!first || decide (0 ≤ i), !!first || decide (i.toNat < n), !!first || decide (iy i < zs.length), !((bif first then true else decide (last < zs.getD (iy i) 0)) && !!found) || decide (0 ≤ i), !((bif first then true else decide (last < zs.getD (iy i) 0)) && !!found) || decide (i.toNat < n), !((bif first then true else decide (last < zs.getD (iy i) 0)) && !!found) || decide (iy i < zs.length), !(bif bif first then true else decide (last < zs.getD (iy i) 0) then bif !found then true else decide (zs.getD (iy i) 0 < next) else false)])) := by kernel_rfl
theorem re_x0 (zs : List Int) (n : Nat) (last next : Int) (first found : Bool) (i : Int) : HO_ Tryd.prog L_re Tryd.f16 (reC0 [0,3,4,5,6,7,8]) [] 99 [0, 1] (hd Tryd.f16 1) (reB n nilS last first next found i) ⟨[sI 0 zs], 1⟩ = some (.ret nilS ⟨[], 99⟩ (conj [!decide (i < Int.ofNat n), !found])) := by kernel_rfl
theorem re_f0 (zs : List Int) (n : Nat) (last next : Int) (first found : Bool) (i : Int) : HO_ Tryd.prog L_re Tryd.f16 (reC0 [0,3,6,9,10]) [] 99 [0, 0] (hd Tryd.f16 1) (reB n nilS last first next found i) ⟨[sI 0 zs], 1⟩ = some (.head (hd Tryd.f16 2) (reD n nilS next 0 0) ⟨[sI 0 zs, (1, none), (4, none)], 20⟩ (conj [!decide (i < Int.ofNat n), !!found])) := by kernel_rfl
theorem re_c0 (zs : List Int) (n : Nat) (next k i : Int) : HO_ Tryd.prog L_re Tryd.f16 (reC0 [0,3,6,9,10]) [] 99 [1, 1] (hd Tryd.f16 2) (reD n nilS next k i) ⟨[sI 0 zs], 1⟩ = some (.head (hd Tryd.f16 2) (reD n nilS next (IntKind.i64.wrap (k + 1)) (IntKind.i64.wrap (i + 1))) ⟨[sI 0 zs, (1, none), (4, none)], 20⟩ (conj [decide (i < Int.ofNat n), decide (0 ≤ i), decide (i.toNat < n), decide (iy i < zs.length), zs.getD (iy i) 0 == next])) := by kernel_rfl
theorem re_d0 (zs : List Int) (n : Nat) (next k i : Int) : HO_ Tryd.prog L_re Tryd.f16 (reC0 [0,3,6,9,10]) [] 99 [1, 0] (hd Tryd.f16 2) (reD n nilS next k i) ⟨[sI 0 zs], 1⟩ = some (.head (hd Tryd.f16 2) (reD n nilS next k (IntKind.i64.wrap (i + 1))) ⟨[sI 0 zs, (1, none), (4, none)], 20⟩ (conj [decide (i < Int.ofNat n), decide (0 ≤ i), decide (i.toNat < n), decide (iy i < zs.length), !zs.getD (iy i) 0 == next])) := by kernel_rfl
theorem re_e0 (zs : List Int) (n : Nat) (next k i : Int) : HO_ Tryd.prog L_re Tryd.f16 (kc [0,3,4,5] [0,4] 20) [] 99 [0] (hd Tryd.f16 2) (reD n nilS next k i) ⟨[sI 0 zs], 1⟩ = some (.head (hd Tryd.f16 0) (reA n (bS 4 1) next false) ⟨[sI 0 zs, oN 4 ([[decText next, decText k]])], 20⟩ (conj [!decide (i < Int.ofNat n), inZ [next, k]])) := by kernel_rfl
theorem re_a1 (zs : List Int) (n : Nat) (last next : Int) (first found : Bool) (i : Int) (r : Nat) (rss : List (List ByteArray)) : HO_ Tryd.prog L_re Tryd.f16 (reC0 [0,3,4,5,6,7,8]) [] 99 [] (hd Tryd.f16 0) (reA n (bS 1 r) last first) ⟨[sI 0 zs, oN 1 rss], 2⟩ = some (.head (hd Tryd.f16 1) (reB n (bS 1 r) last first 0 false 0) ⟨[sI 0 zs, oN 1 rss, (4, none)], 20⟩ true) := by kernel_rfl
theorem re_y1 (zs : List Int) (n : Nat) (last next : Int) (first found : Bool) (i : Int) (r : Nat) (rss : List (List ByteArray)) : HO_ Tryd.prog L_re Tryd.f16 (reC0 [0,3,4,5,6,7,8]) [] 99 [1, 1] (hd Tryd.f16 1) (reB n (bS 1 r) last first next found i) ⟨[sI 0 zs, oN 1 rss], 2⟩ = some (.head (hd Tryd.f16 1) (reB n (bS 1 r) last first (zs.getD (iy i) 0) true (IntKind.i64.wrap (i + 1))) ⟨[sI 0 zs, oN 1 rss, (4, none)], 20⟩ (conj [decide (i < Int.ofNat n), !!first || decide (0 ≤ i), !!first || decide (i.toNat < n), !!first || decide (iy i < zs.length), !((bif first then true else decide (last < zs.getD (iy i) 0)) && !!found) || decide (0 ≤ i), !((bif first then true else decide (last < zs.getD (iy i) 0)) && !!found) || decide (i.toNat < n), !((bif first then true else decide (last < zs.getD (iy i) 0)) && !!found) || decide (iy i < zs.length), (bif bif first then true else decide (last < zs.getD (iy i) 0) then bif !found then true else decide (zs.getD (iy i) 0 < next) else false), decide (0 ≤ i), decide (i.toNat < n), decide (iy i < zs.length)])) := by kernel_rfl
theorem re_n1 (zs : List Int) (n : Nat) (last next : Int) (first found : Bool) (i : Int) (r : Nat) (rss : List (List ByteArray)) : HO_ Tryd.prog L_re Tryd.f16 (reC0 [0,3,4,5,6,7,8]) [] 99 [1, 0] (hd Tryd.f16 1) (reB n (bS 1 r) last first next found i) ⟨[sI 0 zs, oN 1 rss], 2⟩ = some (.head (hd Tryd.f16 1) (reB n (bS 1 r) last first next found (IntKind.i64.wrap (i + 1))) ⟨[sI 0 zs, oN 1 rss, (4, none)], 20⟩ (conj [decide (i < Int.ofNat n), !!first || decide (0 ≤ i), !!first || decide (i.toNat < n), !!first || decide (iy i < zs.length), !((bif first then true else decide (last < zs.getD (iy i) 0)) && !!found) || decide (0 ≤ i), !((bif first then true else decide (last < zs.getD (iy i) 0)) && !!found) || decide (i.toNat < n), !((bif first then true else decide (last < zs.getD (iy i) 0)) && !!found) || decide (iy i < zs.length), !(bif bif first then true else decide (last < zs.getD (iy i) 0) then bif !found then true else decide (zs.getD (iy i) 0 < next) else false)])) := by kernel_rfl
theorem re_x1 (zs : List Int) (n : Nat) (last next : Int) (first found : Bool) (i : Int) (r : Nat) (rss : List (List ByteArray)) : HO_ Tryd.prog L_re Tryd.f16 (reC0 [0,3,4,5,6,7,8]) [1] 99 [0, 1] (hd Tryd.f16 1) (reB n (bS 1 r) last first next found i) ⟨[sI 0 zs, oN 1 rss], 2⟩ = some (.ret (bS 1 r) ⟨[oN 1 rss], 99⟩ (conj [!decide (i < Int.ofNat n), !found])) := by kernel_rfl
theorem re_f1 (zs : List Int) (n : Nat) (last next : Int) (first found : Bool) (i : Int) (r : Nat) (rss : List (List ByteArray)) : HO_ Tryd.prog L_re Tryd.f16 (reC0 [0,3,6,9,10]) [] 99 [0, 0] (hd Tryd.f16 1) (reB n (bS 1 r) last first next found i) ⟨[sI 0 zs, oN 1 rss], 2⟩ = some (.head (hd Tryd.f16 2) (reD n (bS 1 r) next 0 0) ⟨[sI 0 zs, oN 1 rss, (4, none)], 20⟩ (conj [!decide (i < Int.ofNat n), !!found])) := by kernel_rfl
theorem re_c1 (zs : List Int) (n : Nat) (next k i : Int) (r : Nat) (rss : List (List ByteArray)) : HO_ Tryd.prog L_re Tryd.f16 (reC0 [0,3,6,9,10]) [] 99 [1, 1] (hd Tryd.f16 2) (reD n (bS 1 r) next k i) ⟨[sI 0 zs, oN 1 rss], 2⟩ = some (.head (hd Tryd.f16 2) (reD n (bS 1 r) next (IntKind.i64.wrap (k + 1)) (IntKind.i64.wrap (i + 1))) ⟨[sI 0 zs, oN 1 rss, (4, none)], 20⟩ (conj [decide (i < Int.ofNat n), decide (0 ≤ i), decide (i.toNat < n), decide (iy i < zs.length), zs.getD (iy i) 0 == next])) := by kernel_rfl
theorem re_d1 (zs : List Int) (n : Nat) (next k i : Int) (r : Nat) (rss : List (List ByteArray)) : HO_ Tryd.prog L_re Tryd.f16 (reC0 [0,3,6,9,10]) [] 99 [1, 0] (hd Tryd.f16 2) (reD n (bS 1 r) next k i) ⟨[sI 0 zs, oN 1 rss], 2⟩ = some (.head (hd Tryd.f16 2) (reD n (bS 1 r) next k (IntKind.i64.wrap (i + 1))) ⟨[sI 0 zs, oN 1 rss, (4, none)], 20⟩ (conj [decide (i < Int.ofNat n), decide (0 ≤ i), decide (i.toNat < n), decide (iy i < zs.length), !zs.getD (iy i) 0 == next])) := by kernel_rfl
theorem re_e1 (zs : List Int) (n : Nat) (next k i : Int) (r : Nat) (rss : List (List ByteArray)) : HO_ Tryd.prog L_re Tryd.f16 (kc [0,3,4,5] [0,5] 20) [] 99 [0] (hd Tryd.f16 2) (reD n (bS 1 r) next k i) ⟨[sI 0 zs, oN 1 rss], 2⟩ = some (.head (hd Tryd.f16 0) (reA n (bS 5 (r + 1)) next false) ⟨[sI 0 zs, oN 5 (rss ++ [[decText next, decText k]])], 20⟩ (conj [!decide (i < Int.ofNat n), inZ [next, k], Nat.beq r rss.length, decide (0 < r), decide ((r + 1) * 24 ≤ 140737488355328)])) := by kernel_rfl
end Go.Proofs.YtbjealobiblabaaDoor

namespace Go.Proofs.YtbjealobiblabaaDoor
open Go Go.RowKit Go.Shelf
set_option maxRecDepth 100000
def MinInv (D l : List Int) (next : Int) (found : Bool) : Prop := (found = false → ∀ z ∈ l, z ∉ D) ∧ (found = true → next ∈ l ∧ next ∈ D ∧ ∀ z ∈ l, z ∈ D → next ≤ z)
theorem min_step {D l : List Int} {next z : Int} {found : Bool} (h : MinInv D l next found) : ((z ∈ D ∧ (found = false ∨ z < next)) → MinInv D (l ++ [z]) z true) ∧ (¬ (z ∈ D ∧ (found = false ∨ z < next)) → MinInv D (l ++ [z]) next found) := by
  constructor
  · rintro ⟨hz, hf⟩
    refine ⟨(fun h => by cases h), fun _ => ⟨by simp, hz, fun y hy hyD => ?_⟩⟩
    rcases List.mem_append.1 hy with hy | hy
    · rcases hf with hf | hf
      · exact absurd hyD (h.1 hf y hy)
      · cases hfd : found with
        | false => exact absurd hyD (h.1 hfd y hy)
        | true => have := (h.2 hfd).2.2 y hy hyD; omega
    · rw [List.mem_singleton.1 hy]; exact Int.le_refl _
  · intro hn
    refine ⟨fun hf y hy => ?_, fun hf => ?_⟩
    · rcases List.mem_append.1 hy with hy | hy
      · exact h.1 hf y hy
      · rw [List.mem_singleton.1 hy]; exact fun hD => hn ⟨hD, .inl hf⟩
    · obtain ⟨a, b, c⟩ := h.2 hf
      refine ⟨List.mem_append_left _ a, b, fun y hy hyD => ?_⟩
      rcases List.mem_append.1 hy with hy | hy
      · exact c y hy hyD
      · rw [List.mem_singleton.1 hy] at hyD ⊢
        exact Int.not_lt.1 fun hlt => hn ⟨hyD, .inr hlt⟩
theorem rise_drop {L : List Int} (h : L.Pairwise (· < ·)) {j : Nat} (hj : j < L.length) {z : Int} (hz : z ∈ L) : L[j] < z ↔ z ∈ L.drop (j + 1) := by
  have hp := List.pairwise_iff_getElem.1 h
  obtain ⟨k, hk, rfl⟩ := List.mem_iff_getElem.1 hz
  constructor
  · intro hlt
    have : j < k := by
      rcases Nat.lt_trichotomy j k with h1 | h1 | h1
      · exact h1
      · subst h1; omega
      · have := hp k j hk hj h1; omega
    rw [List.mem_iff_getElem]
    exact ⟨k - (j + 1), by simp; omega, by rw [List.getElem_drop]; congr 1; omega⟩
  · intro hm
    obtain ⟨i, hi, e⟩ := List.mem_iff_getElem.1 hm
    rw [List.getElem_drop] at e
    rw [← e]
    exact hp j (j + 1 + i) hj (by simp at hi; omega) (by omega)
theorem rise_len {L l : List Int} (h : Rise L l) : L.length ≤ l.length := by
  have : ∀ (L l : List Int), L.Nodup → (∀ z ∈ L, z ∈ l) → L.length ≤ l.length := fun L => by
    induction L with
    | nil => intro l _ _; exact Nat.zero_le _
    | cons x L ih =>
      intro l hn hm
      obtain ⟨n1, n2⟩ := List.pairwise_cons.1 hn
      have hx := hm x (by simp)
      have := ih (l.erase x) n2 fun z hz => by
        have : z ≠ x := fun e => n1 z hz e.symm
        exact (List.mem_erase_of_ne this).2 (hm z (List.mem_cons_of_mem _ hz))
      rw [List.length_erase_of_mem hx] at this
      have hp := List.length_pos_of_mem hx
      simp only [List.length_cons]; omega
  exact this L l (rise_nodup h.1) fun z hz => (h.2 z).1 hz
theorem re_min0 (zs D : List Int) (last : Int) (first : Bool)  (hn : zs.length ≤ 60) (hP : ∀ z ∈ zs, pz first last z = true ↔ z ∈ D) : ∀ (f i : Nat) (next : Int) (found : Bool), i + f = zs.length → MinInv D (zs.take i) next found →
    ∃ next' found', MinInv D zs next' found' ∧ Goes Tryd.prog 1 ⟨hd Tryd.f16 1, reB zs.length nilS last first next found i, ⟨[sI 0 zs], 1⟩⟩ ⟨hd Tryd.f16 1, reB zs.length nilS last first next' found' (zs.length : Int), ⟨[sI 0 zs], 1⟩⟩
  | 0, i, next, found, hi, h => by
    have e : i = zs.length := by omega
    subst e
    rw [List.take_length] at h
    exact ⟨next, found, h, Goes.refl⟩
  | f + 1, i, next, found, hi, h => by
    have hlt : i < zs.length := by omega
    have hz := hP zs[i] (List.getElem_mem hlt)
    have ht : zs.take (i + 1) = zs.take i ++ [zs[i]] := List.take_succ_eq_append_getElem hlt
    obtain ⟨s1, s2⟩ := min_step (z := zs[i]) h
    by_cases hc : zs[i] ∈ D ∧ (found = false ∨ zs[i] < next)
    · obtain ⟨n', f', a, g⟩ := re_min0 zs D last first  hn hP f (i + 1) zs[i] true (by omega) (by rw [ht]; exact s1 hc)
      refine ⟨n', f', a, Goes.trans ?_ g⟩
      have h := re_y0 zs zs.length last next first found i 
      rw [upY (by omega), iy_nat, gd hlt] at h
      have c1 : (bif first then true else decide (last < zs[i])) = true := hz.2 hc.1
      have c2 : (bif !found then true else decide (zs[i] < next)) = true := by
        rcases hc.2 with e | e
        · rw [e]; rfl
        · cases found <;> simp [e]
      rw [conj_ty (by rw [c1, c2]; simp [hlt])] at h
      exact (HO_head hE_re mixedY rfl h rfl).trans (Goes.ren (P := Tryd.prog) (B := 1) (σ := [(0, 0)]) (nx := 1) rfl)
    · obtain ⟨n', f', a, g⟩ := re_min0 zs D last first  hn hP f (i + 1) next found (by omega) (by rw [ht]; exact s2 hc)
      refine ⟨n', f', a, Goes.trans ?_ g⟩
      have h := re_n0 zs zs.length last next first found i 
      rw [upY (by omega), iy_nat, gd hlt] at h
      have c1 : (bif bif first then true else decide (last < zs[i]) then bif !found then true else decide (zs[i] < next) else false) = false := by
        by_cases hD : zs[i] ∈ D
        · have hf : ¬ (found = false ∨ zs[i] < next) := fun h => hc ⟨hD, h⟩
          have e1 : (bif first then true else decide (last < zs[i])) = true := hz.2 hD
          rw [e1]
          cases hfd : found with
          | false => exact absurd (.inl hfd) hf
          | true => simp; exact Int.not_lt.1 fun h => hf (.inr h)
        · have e1 : (bif first then true else decide (last < zs[i])) = false := by
            rw [Bool.eq_false_iff]; exact fun e => hD (hz.1 e)
          rw [e1]; rfl
      rw [conj_ty (by rw [c1]; simp [hlt])] at h
      exact (HO_head hE_re mixedY rfl h rfl).trans (Goes.ren (P := Tryd.prog) (B := 1) (σ := [(0, 0)]) (nx := 1) rfl)
theorem re_cnt0 (zs : List Int) (next : Int)  (hn : zs.length ≤ 60) : ∀ (f i : Nat), i + f = zs.length →
    Goes Tryd.prog 1 ⟨hd Tryd.f16 2, reD zs.length nilS next ((zs.take i).count next : Int) i, ⟨[sI 0 zs], 1⟩⟩ ⟨hd Tryd.f16 2, reD zs.length nilS next (zs.count next : Int) (zs.length : Int), ⟨[sI 0 zs], 1⟩⟩
  | 0, i, hi => by
    have e : i = zs.length := by omega
    subst e
    rw [List.take_length]
    exact Goes.refl
  | f + 1, i, hi => by
    have hlt : i < zs.length := by omega
    have ht : zs.take (i + 1) = zs.take i ++ [zs[i]] := List.take_succ_eq_append_getElem hlt
    have hcl : (zs.take i).count next ≤ 60 := Nat.le_trans List.count_le_length (by simp; omega)
    refine Goes.trans ?_ (re_cnt0 zs next  hn f (i + 1) (by omega))
    rw [ht, List.count_append]
    by_cases hc : zs[i] = next
    · have h := re_c0 zs zs.length next ((zs.take i).count next : Int) i 
      rw [upY (by omega), upY (by omega), iy_nat, gd hlt, conj_ty (by simp [hlt, hc])] at h
      have e : (zs.take i).count next + [zs[i]].count next = (zs.take i).count next + 1 := by simp [hc]
      rw [e]
      exact (HO_head hE_re mixedY rfl h rfl).trans (Goes.ren (P := Tryd.prog) (B := 1) (σ := [(0, 0)]) (nx := 1) rfl)
    · have h := re_d0 zs zs.length next ((zs.take i).count next : Int) i 
      rw [upY (by omega), iy_nat, gd hlt, conj_ty (by simp [hlt, hc])] at h
      have e : (zs.take i).count next + [zs[i]].count next = (zs.take i).count next := by simp [List.count_singleton, hc]
      rw [e]
      exact (HO_head hE_re mixedY rfl h rfl).trans (Goes.ren (P := Tryd.prog) (B := 1) (σ := [(0, 0)]) (nx := 1) rfl)
/-- The next number is found, and counted. -/
theorem re_next0 (zs L : List Int) (j : Nat) (last : Int) (first : Bool)   (hz : inZ zs = true) (hn : zs.length ≤ 60) (hr : Rise L zs) (hj : j < L.length) (hP : ∀ z ∈ zs, pz first last z = true ↔ z ∈ L.drop j) :
    Goes Tryd.prog 1 ⟨hd Tryd.f16 0, reA zs.length nilS last first, ⟨[sI 0 zs], 1⟩⟩ ⟨hd Tryd.f16 0, reA zs.length (bS 1 1) L[j] false, ⟨[sI 0 zs, oN 1 ([[decText L[j], decText (zs.count L[j] : Int)]])], 2⟩⟩ := by
  have ha := re_a0 zs zs.length last 0 first false 0 
  obtain ⟨next, found, hi, g⟩ := re_min0 zs (L.drop j) last first  hn hP zs.length 0 0 false (by omega) ⟨fun _ z hz => by simp at hz, fun h => by cases h⟩
  have hmem : L[j] ∈ zs := (hr.2 _).1 (List.getElem_mem hj)
  have hdr : L[j] ∈ L.drop j := List.mem_iff_getElem.2 ⟨0, by simp; omega, by simp⟩
  have hf : found = true := by
    cases hfd : found with
    | false => exact absurd hdr (hi.1 hfd _ hmem)
    | true => rfl
  subst hf
  obtain ⟨n1, n2, n3⟩ := hi.2 rfl
  have hle := n3 _ hmem hdr
  have e : next = L[j] := by
    rw [List.drop_eq_getElem_cons hj] at n2
    rcases List.mem_cons.1 n2 with e | n2
    · exact e
    · have := (rise_drop hr.1 hj ((hr.2 _).2 n1)).2 n2; omega
  subst e
  have hf' := re_f0 zs zs.length last L[j] first true (zs.length : Int) 
  rw [conj_ty (by simp)] at hf'
  have hc := re_cnt0 zs L[j]  hn zs.length 0 (by omega)
  have he := re_e0 zs zs.length L[j] (zs.count L[j] : Int) (zs.length : Int) 
  obtain ⟨q, hq, eq⟩ := List.mem_iff_getElem.1 hmem
  obtain ⟨z0, z1⟩ := inZ_at hz hq
  rw [eq] at z0 z1
  have hcl : zs.count L[j] ≤ 60 := Nat.le_trans List.count_le_length hn
  rw [conj_ty (by
    simp only [List.all_cons, List.all_nil, id, Bool.and_true, Bool.and_eq_true, decide_eq_true_eq, inZ]
    exact ⟨by simp, ⟨z0, z1⟩, by omega, by omega⟩)] at he
  refine Goes.trans ((HO_head hE_re mixedY rfl ha rfl).trans (Goes.ren (P := Tryd.prog) (B := 1) (σ := [(0, 0)]) (nx := 1) rfl)) (g.trans ?_)
  refine Goes.trans ((HO_head hE_re mixedY rfl hf' rfl).trans (Goes.ren (P := Tryd.prog) (B := 1) (σ := [(0, 0)]) (nx := 1) rfl)) (hc.trans ?_)
  exact (HO_head hE_re mixedY rfl he rfl).trans (Goes.ren (P := Tryd.prog) (B := 1) (σ := [(0, 0), (1, 4)]) (nx := 2) rfl)
/-- No further one. -/
theorem re_stop0 (zs L : List Int) (last : Int) (first : Bool)  (hn : zs.length ≤ 60) (hP : ∀ z ∈ zs, pz first last z = true ↔ z ∈ ([] : List Int)) :
    Gives_ Tryd.prog Tryd.f16 1 ⟨hd Tryd.f16 0, reA zs.length nilS last first, ⟨[sI 0 zs], 1⟩⟩ nilS ⟨[], 99⟩ := by
  have ha := re_a0 zs zs.length last 0 first false 0 
  obtain ⟨next, found, hi, g⟩ := re_min0 zs [] last first  hn hP zs.length 0 0 false (by omega) ⟨fun _ z hz => by simp at hz, fun h => by cases h⟩
  have hf : found = false := by
    cases hfd : found with
    | false => rfl
    | true => exact absurd (hi.2 hfd).2.1 (by simp)
  subst hf
  have hx := re_x0 zs zs.length last next first false (zs.length : Int) 
  rw [conj_ty (by simp)] at hx
  refine Goes.gives ((HO_head hE_re mixedY rfl ha rfl).trans (Goes.ren (P := Tryd.prog) (B := 1) (σ := [(0, 0)]) (nx := 1) rfl)) (Goes.gives g ?_)
  exact HO_ret hE_re mixedY rfl hx rfl
theorem re_min1 (zs D : List Int) (last : Int) (first : Bool) (r : Nat) (rss : List (List ByteArray)) (hn : zs.length ≤ 60) (hP : ∀ z ∈ zs, pz first last z = true ↔ z ∈ D) : ∀ (f i : Nat) (next : Int) (found : Bool), i + f = zs.length → MinInv D (zs.take i) next found →
    ∃ next' found', MinInv D zs next' found' ∧ Goes Tryd.prog 1 ⟨hd Tryd.f16 1, reB zs.length (bS 1 r) last first next found i, ⟨[sI 0 zs, oN 1 rss], 2⟩⟩ ⟨hd Tryd.f16 1, reB zs.length (bS 1 r) last first next' found' (zs.length : Int), ⟨[sI 0 zs, oN 1 rss], 2⟩⟩
  | 0, i, next, found, hi, h => by
    have e : i = zs.length := by omega
    subst e
    rw [List.take_length] at h
    exact ⟨next, found, h, Goes.refl⟩
  | f + 1, i, next, found, hi, h => by
    have hlt : i < zs.length := by omega
    have hz := hP zs[i] (List.getElem_mem hlt)
    have ht : zs.take (i + 1) = zs.take i ++ [zs[i]] := List.take_succ_eq_append_getElem hlt
    obtain ⟨s1, s2⟩ := min_step (z := zs[i]) h
    by_cases hc : zs[i] ∈ D ∧ (found = false ∨ zs[i] < next)
    · obtain ⟨n', f', a, g⟩ := re_min1 zs D last first r rss hn hP f (i + 1) zs[i] true (by omega) (by rw [ht]; exact s1 hc)
      refine ⟨n', f', a, Goes.trans ?_ g⟩
      have h := re_y1 zs zs.length last next first found i r rss
      rw [upY (by omega), iy_nat, gd hlt] at h
      have c1 : (bif first then true else decide (last < zs[i])) = true := hz.2 hc.1
      have c2 : (bif !found then true else decide (zs[i] < next)) = true := by
        rcases hc.2 with e | e
        · rw [e]; rfl
        · cases found <;> simp [e]
      rw [conj_ty (by rw [c1, c2]; simp [hlt])] at h
      exact (HO_head hE_re mixedY rfl h rfl).trans (Goes.ren (P := Tryd.prog) (B := 1) (σ := [(0, 0), (1, 1)]) (nx := 2) rfl)
    · obtain ⟨n', f', a, g⟩ := re_min1 zs D last first r rss hn hP f (i + 1) next found (by omega) (by rw [ht]; exact s2 hc)
      refine ⟨n', f', a, Goes.trans ?_ g⟩
      have h := re_n1 zs zs.length last next first found i r rss
      rw [upY (by omega), iy_nat, gd hlt] at h
      have c1 : (bif bif first then true else decide (last < zs[i]) then bif !found then true else decide (zs[i] < next) else false) = false := by
        by_cases hD : zs[i] ∈ D
        · have hf : ¬ (found = false ∨ zs[i] < next) := fun h => hc ⟨hD, h⟩
          have e1 : (bif first then true else decide (last < zs[i])) = true := hz.2 hD
          rw [e1]
          cases hfd : found with
          | false => exact absurd (.inl hfd) hf
          | true => simp; exact Int.not_lt.1 fun h => hf (.inr h)
        · have e1 : (bif first then true else decide (last < zs[i])) = false := by
            rw [Bool.eq_false_iff]; exact fun e => hD (hz.1 e)
          rw [e1]; rfl
      rw [conj_ty (by rw [c1]; simp [hlt])] at h
      exact (HO_head hE_re mixedY rfl h rfl).trans (Goes.ren (P := Tryd.prog) (B := 1) (σ := [(0, 0), (1, 1)]) (nx := 2) rfl)
theorem re_cnt1 (zs : List Int) (next : Int) (r : Nat) (rss : List (List ByteArray)) (hn : zs.length ≤ 60) : ∀ (f i : Nat), i + f = zs.length →
    Goes Tryd.prog 1 ⟨hd Tryd.f16 2, reD zs.length (bS 1 r) next ((zs.take i).count next : Int) i, ⟨[sI 0 zs, oN 1 rss], 2⟩⟩ ⟨hd Tryd.f16 2, reD zs.length (bS 1 r) next (zs.count next : Int) (zs.length : Int), ⟨[sI 0 zs, oN 1 rss], 2⟩⟩
  | 0, i, hi => by
    have e : i = zs.length := by omega
    subst e
    rw [List.take_length]
    exact Goes.refl
  | f + 1, i, hi => by
    have hlt : i < zs.length := by omega
    have ht : zs.take (i + 1) = zs.take i ++ [zs[i]] := List.take_succ_eq_append_getElem hlt
    have hcl : (zs.take i).count next ≤ 60 := Nat.le_trans List.count_le_length (by simp; omega)
    refine Goes.trans ?_ (re_cnt1 zs next r rss hn f (i + 1) (by omega))
    rw [ht, List.count_append]
    by_cases hc : zs[i] = next
    · have h := re_c1 zs zs.length next ((zs.take i).count next : Int) i r rss
      rw [upY (by omega), upY (by omega), iy_nat, gd hlt, conj_ty (by simp [hlt, hc])] at h
      have e : (zs.take i).count next + [zs[i]].count next = (zs.take i).count next + 1 := by simp [hc]
      rw [e]
      exact (HO_head hE_re mixedY rfl h rfl).trans (Goes.ren (P := Tryd.prog) (B := 1) (σ := [(0, 0), (1, 1)]) (nx := 2) rfl)
    · have h := re_d1 zs zs.length next ((zs.take i).count next : Int) i r rss
      rw [upY (by omega), iy_nat, gd hlt, conj_ty (by simp [hlt, hc])] at h
      have e : (zs.take i).count next + [zs[i]].count next = (zs.take i).count next := by simp [List.count_singleton, hc]
      rw [e]
      exact (HO_head hE_re mixedY rfl h rfl).trans (Goes.ren (P := Tryd.prog) (B := 1) (σ := [(0, 0), (1, 1)]) (nx := 2) rfl)
/-- The next number is found, and counted. -/
theorem re_next1 (zs L : List Int) (j : Nat) (last : Int) (first : Bool) (r : Nat) (rss : List (List ByteArray)) (h0 : 0 < r) (hrl : rss.length = r) (hr60 : r ≤ 100) (hz : inZ zs = true) (hn : zs.length ≤ 60) (hr : Rise L zs) (hj : j < L.length) (hP : ∀ z ∈ zs, pz first last z = true ↔ z ∈ L.drop j) :
    Goes Tryd.prog 1 ⟨hd Tryd.f16 0, reA zs.length (bS 1 r) last first, ⟨[sI 0 zs, oN 1 rss], 2⟩⟩ ⟨hd Tryd.f16 0, reA zs.length (bS 1 (r + 1)) L[j] false, ⟨[sI 0 zs, oN 1 (rss ++ [[decText L[j], decText (zs.count L[j] : Int)]])], 2⟩⟩ := by
  have ha := re_a1 zs zs.length last 0 first false 0 r rss
  obtain ⟨next, found, hi, g⟩ := re_min1 zs (L.drop j) last first r rss hn hP zs.length 0 0 false (by omega) ⟨fun _ z hz => by simp at hz, fun h => by cases h⟩
  have hmem : L[j] ∈ zs := (hr.2 _).1 (List.getElem_mem hj)
  have hdr : L[j] ∈ L.drop j := List.mem_iff_getElem.2 ⟨0, by simp; omega, by simp⟩
  have hf : found = true := by
    cases hfd : found with
    | false => exact absurd hdr (hi.1 hfd _ hmem)
    | true => rfl
  subst hf
  obtain ⟨n1, n2, n3⟩ := hi.2 rfl
  have hle := n3 _ hmem hdr
  have e : next = L[j] := by
    rw [List.drop_eq_getElem_cons hj] at n2
    rcases List.mem_cons.1 n2 with e | n2
    · exact e
    · have := (rise_drop hr.1 hj ((hr.2 _).2 n1)).2 n2; omega
  subst e
  have hf' := re_f1 zs zs.length last L[j] first true (zs.length : Int) r rss
  rw [conj_ty (by simp)] at hf'
  have hc := re_cnt1 zs L[j] r rss hn zs.length 0 (by omega)
  have he := re_e1 zs zs.length L[j] (zs.count L[j] : Int) (zs.length : Int) r rss
  obtain ⟨q, hq, eq⟩ := List.mem_iff_getElem.1 hmem
  obtain ⟨z0, z1⟩ := inZ_at hz hq
  rw [eq] at z0 z1
  have hcl : zs.count L[j] ≤ 60 := Nat.le_trans List.count_le_length hn
  rw [conj_ty (by
    simp only [List.all_cons, List.all_nil, id, Bool.and_true, Bool.and_eq_true, decide_eq_true_eq, inZ]
    exact ⟨by simp, ⟨⟨z0, z1⟩, by omega, by omega⟩, by show Nat.beq r rss.length = true; rw [hrl]; exact Nat.beq_refl r, h0, by omega⟩)] at he
  refine Goes.trans ((HO_head hE_re mixedY rfl ha rfl).trans (Goes.ren (P := Tryd.prog) (B := 1) (σ := [(0, 0), (1, 1)]) (nx := 2) rfl)) (g.trans ?_)
  refine Goes.trans ((HO_head hE_re mixedY rfl hf' rfl).trans (Goes.ren (P := Tryd.prog) (B := 1) (σ := [(0, 0), (1, 1)]) (nx := 2) rfl)) (hc.trans ?_)
  exact (HO_head hE_re mixedY rfl he rfl).trans (Goes.ren (P := Tryd.prog) (B := 1) (σ := [(0, 0), (1, 5)]) (nx := 2) rfl)
/-- No further one. -/
theorem re_stop1 (zs L : List Int) (last : Int) (first : Bool) (r : Nat) (rss : List (List ByteArray)) (hn : zs.length ≤ 60) (hP : ∀ z ∈ zs, pz first last z = true ↔ z ∈ ([] : List Int)) :
    Gives_ Tryd.prog Tryd.f16 1 ⟨hd Tryd.f16 0, reA zs.length (bS 1 r) last first, ⟨[sI 0 zs, oN 1 rss], 2⟩⟩ (bS 1 r) ⟨[oN 1 rss], 99⟩ := by
  have ha := re_a1 zs zs.length last 0 first false 0 r rss
  obtain ⟨next, found, hi, g⟩ := re_min1 zs [] last first r rss hn hP zs.length 0 0 false (by omega) ⟨fun _ z hz => by simp at hz, fun h => by cases h⟩
  have hf : found = false := by
    cases hfd : found with
    | false => rfl
    | true => exact absurd (hi.2 hfd).2.1 (by simp)
  subst hf
  have hx := re_x1 zs zs.length last next first false (zs.length : Int) r rss
  rw [conj_ty (by simp)] at hx
  refine Goes.gives ((HO_head hE_re mixedY rfl ha rfl).trans (Goes.ren (P := Tryd.prog) (B := 1) (σ := [(0, 0), (1, 1)]) (nx := 2) rfl)) (Goes.gives g ?_)
  exact HO_ret hE_re mixedY rfl hx rfl
theorem re_all (zs L : List Int) (hz : inZ zs = true) (hn : zs.length ≤ 60) (hr : Rise L zs) : ∀ (f j : Nat) (hj : 0 < j) (hjf : j + f = L.length),
    Gives_ Tryd.prog Tryd.f16 1 ⟨hd Tryd.f16 0, reA zs.length (bS 1 j) (L[j - 1]'(by omega)) false, ⟨[sI 0 zs, oN 1 (rowsE (L.take j) zs)], 2⟩⟩ (bS 1 L.length) ⟨[oN 1 (rowsE L zs)], 99⟩
  | 0, j, hj, hjf => by
    have e : j = L.length := by omega
    have h := re_stop1 zs L (L[j - 1]'(by omega)) false j (rowsE (L.take j) zs) hn fun z hz => by
      have := rise_drop hr.1 (show j - 1 < L.length by omega) ((hr.2 z).2 hz)
      rw [show j - 1 + 1 = L.length by omega, List.drop_length] at this
      show decide _ = true ↔ _
      rw [decide_eq_true_iff]; exact this
    rw [show rowsE L zs = rowsE (L.take j) zs by rw [List.take_of_length_le (by omega)], show bS 1 L.length = bS 1 j by rw [← e]]
    exact h
  | f + 1, j, hj, hjf => by
    have hlt : j < L.length := by omega
    have hlen : L.length ≤ zs.length := rise_len hr
    have h := re_next1 zs L j (L[j - 1]'(by omega)) false j (rowsE (L.take j) zs) hj (by unfold rowsE; simp; omega) (by omega) hz hn hr hlt fun z hz => by
      have := rise_drop hr.1 (show j - 1 < L.length by omega) ((hr.2 z).2 hz)
      rw [show j - 1 + 1 = j by omega] at this
      show decide _ = true ↔ _
      rw [decide_eq_true_iff]; exact this
    have e : rowsE (L.take j) zs ++ [[decText L[j], decText (zs.count L[j] : Int)]] = rowsE (L.take (j + 1)) zs := by
      unfold rowsE
      rw [List.take_succ_eq_append_getElem hlt, List.map_append]; rfl
    rw [e] at h
    exact Goes.gives h (re_all zs L hz hn hr f (j + 1) (by omega) (by omega))
theorem re_whole (zs L : List Int) (hz : inZ zs = true) (hn : zs.length ≤ 60) (hr : Rise L zs) (h0 : 0 < L.length) :
    Gives_ Tryd.prog Tryd.f16 1 (enterA Tryd.f16 (bodyOf Tryd.f16) [aS 0 zs.length] ⟨[sI 0 zs], 1⟩) (bS 1 L.length) ⟨[oN 1 (rowsE L zs)], 99⟩ := by
  have g0 := (F_head (f := Tryd.f16) (c := bodyOf Tryd.f16) (m := ⟨[sI 0 zs], 1⟩) hE_re mixedY rfl rfl (re_in zs zs.length)).trans (Goes.ren (P := Tryd.prog) (B := 1) (σ := [(0, 0)]) (nx := 1) rfl)
  have h := re_next0 zs L 0 0 true hz hn hr h0 fun z hz => by
    rw [List.drop_zero, hr.2 z]
    exact ⟨fun _ => hz, fun _ => rfl⟩
  have e : [[decText L[0], decText (zs.count L[0] : Int)]] = rowsE (L.take 1) zs := by
    unfold rowsE
    rw [List.take_succ_eq_append_getElem h0]; rfl
  rw [e] at h
  exact Goes.gives (g0.trans h) (re_all zs L hz hn hr (L.length - 1) 1 (by omega) (by omega))
theorem re_zero : Gives_ Tryd.prog Tryd.f16 1 (enterA Tryd.f16 (bodyOf Tryd.f16) [aS 0 0] ⟨[sI 0 []], 1⟩) nilS ⟨[], 99⟩ := by
  have g0 := (F_head (f := Tryd.f16) (c := bodyOf Tryd.f16) (m := ⟨[sI 0 []], 1⟩) hE_re mixedY rfl rfl (re_in [] 0)).trans (Goes.ren (P := Tryd.prog) (B := 1) (σ := [(0, 0)]) (nx := 1) rfl)
  exact Goes.gives g0 (re_stop0 [] [] 0 true (by decide) fun z hz => by cases hz)
end Go.Proofs.YtbjealobiblabaaDoor

namespace Go.Proofs.YtbjealobiblabaaDoor
open Go Go.RowKit Go.Shelf
set_option maxRecDepth 100000
theorem roB_ro : ∀ (bl : List (Nat × Option ABlk)), allRo (roB bl) = true
  | [] => rfl
  | (l, none) :: r => by simp only [roB, allRo]; exact roB_ro r
  | (l, some b) :: r => by simp only [roB, allRo, Bool.not_false, Bool.true_and]; exact roB_ro r
section
variable {P : Program}
theorem ok_ro {ρ : Rho} {m : MS} {w : World} {l : Nat} {op : Bool} {c0 c : Cont} {cp : Nat} (hm : MRel ρ m w) (hl : look m.bl l = some ⟨true, op, c0⟩) (h : (c0.says c ∧ c.plain = true) ∨ ∃ cs fo, c0 = .obj (.nest cs fo) ∧ c = .obj (.nest cs [])) : (⟨false, false, c⟩ : ABlk).ok ρ m.nx ⟨(ρ l).b, (ρ l).o, cp, (ρ l).tg⟩ w := by
  obtain ⟨_, hok⟩ := hm.blk l _ hl
  have hlt := hok.lt.resolve_right (wr_not_void rfl)
  rcases h with ⟨hs, hp⟩ | ⟨cs, fo, rfl, rfl⟩
  · refine ⟨.inl hlt, ?_, (fun h => by cases h), (fun h => by cases h), fun q hq => absurd hq (Cont.plain_ne hp q)⟩
    rcases hs with ⟨rfl, _⟩ | ⟨_, hs⟩
    · exact hok.rel
    · exact hs _ _ _ hok.rel
  · refine ⟨.inl hlt, (fun r c a h => by cases h), (fun h => by cases h), (fun h => by cases h), fun q hq => ?_⟩
    cases hq
    have h3 := hok.obj _ rfl
    intro hne
    obtain ⟨t1, t2⟩ := h3 hne
    exact ⟨t1, t2⟩
theorem nest_void (cs : List NCol) (h : nestB cs = false) : (⟨false, false, .obj (.nest cs [])⟩ : ABlk).void := ⟨rfl, rfl, (fun q hq => by cases hq; simp [QObj.hollow, h]), fun r c a h => by cases h⟩
/-- What is handed back is a struct of a slice of texts, and a slice of slices. -/
theorem lift_tab {f : FuncId} {m m1 m' : MS} {args args1 : List AV} {hs : List ByteArray} {c0 : Cont} {nh n kh : Nat} {op : Bool} {cph : Option Nat} {cs : List NCol} {rows : AV} (hro : allRo m1.bl = true) (hcs : cs.length = 1)
    (hsim : ∀ (ρ : Rho) (w : World) (xs : List Value), MRel ρ m w → AV.rels ρ m.nx args xs → ∃ ρ1, MRel ρ1 m1 w ∧ AV.rels ρ1 m1.nx args1 xs)
    (hf : FSound P f m1 args1 (.agg [.sl true kh 1 0 1 nh cph, rows]) m') (hh : look m'.bl kh = some ⟨true, op, c0⟩) (hsay : c0.says (.col (.strs hs)))
    (hrows : (n = 0 ∧ nestB cs = false ∧ rows = .val (.slice none 0 0)) ∨ ∃ k op' fo cap, rows = .sl true k 1 0 1 n cap ∧ look m'.bl k = some ⟨true, op', .obj (.nest cs fo)⟩) :
    FSound P f m args (.agg [.sl false m.nx 1 0 1 nh none, .sl false (m.nx + 1) 1 0 1 n none]) ⟨(m.nx + 1, some ⟨false, false, .obj (.nest cs [])⟩) :: (m.nx, some ⟨false, false, .col (.strs hs)⟩) :: roB m.bl, m.nx + 2⟩ := by
  intro ρ w xs hm0 hx
  obtain ⟨ρ1, hm1, hx1⟩ := hsim ρ w xs hm0 hx
  have hnw := allRo_noWr (ρ := ρ1) hro
  refine Went.mono (hf ρ1 w xs hm1 hx1) fun x w' ⟨ρ2, hr, hm2, mv⟩ => ?_
  have hk : ∀ g, g < w.heap.size → w'.heap[g]? = w.heap[g]? := fun g hg => mv.keep g hg (hnw g)
  have hmw : MRel ρ ⟨roB m.bl, m.nx⟩ w' := still_mrel (hm0.later mv.size hk)
  simp only [AV.rel, AV.rels] at hr
  obtain ⟨_, rfl, xh, _, rfl, ⟨_, A, cp, rfl, hnc, hA, _, _⟩, xr, _, rfl, hxr, rfl⟩ := hr
  let i : LI := ⟨(ρ2 kh).b, (ρ2 kh).o, cp * (1 * 1), (ρ2 kh).tg⟩
  have o1 : (⟨false, false, .col (.strs hs)⟩ : ABlk).ok ρ2 m'.nx i w' := ok_ro hm2 hh (.inl ⟨hsay, rfl⟩)
  have m1' := MRel.addRo (m := ⟨roB m.bl, m.nx⟩) hmw (roB_ro _) rfl o1
  have ro1 : allRo ((m.nx, some (⟨false, false, .col (.strs hs)⟩ : ABlk)) :: roB m.bl) = true := by simp only [allRo, Bool.not_false, Bool.true_and]; exact roB_ro _
  obtain ⟨j, B, cq, n2, e2, h2, h3, h4⟩ : ∃ (j : LI) (B : Option Addr) (cq : Nat), n ≤ cq ∧ xr = .slice B n cq ∧ (0 < n → B = some ⟨j.b, j.o, none⟩) ∧ cq * (1 * 1) ≤ j.cap ∧ (⟨false, false, .obj (.nest cs [])⟩ : ABlk).ok ρ2 m'.nx j w' := by
    rcases hrows with ⟨rfl, hv, rfl⟩ | ⟨k, op', fo, cap, rfl, hl⟩
    · simp only [AV.rel] at hxr
      exact ⟨⟨0, 0, 0, 0⟩, none, 0, Nat.le_refl _, hxr, fun h => by omega, by simp, ABlk.ok.any (nest_void cs hv) _⟩
    · simp only [AV.rel] at hxr
      obtain ⟨_, B, cq, e, a, b, _, _⟩ := hxr
      exact ⟨⟨(ρ2 k).b, (ρ2 k).o, cq * (1 * 1), (ρ2 k).tg⟩, B, cq, a, e, fun hn => by rw [b hn]; simp, Nat.le_refl _, ok_ro hm2 hl (.inr ⟨cs, fo, rfl, rfl⟩)⟩
  have m2' := MRel.addRo (m := ⟨(m.nx, some ⟨false, false, .col (.strs hs)⟩) :: roB m.bl, m.nx + 1⟩) m1' ro1 rfl h4
  subst e2
  have r0 : ((ρ.new m.nx i).new (m.nx + 1) j) m.nx = i := by simp [Rho.new]
  have r1 : ((ρ.new m.nx i).new (m.nx + 1) j) (m.nx + 1) = j := by simp [Rho.new]
  refine ⟨(ρ.new m.nx i).new (m.nx + 1) j, ?_, m2', ⟨fun l hl => by simp only [Rho.new]; rw [if_neg (by omega), if_neg (by omega)], by show m.nx ≤ m.nx + 2; omega, mv.os, mv.tape, mv.output, mv.size, fun g hg _ => hk g hg, fun g ⟨l, b, q1, q2, q3⟩ => ?_⟩⟩
  · simp only [AV.rel, AV.rels]
    rw [r0, r1]
    refine ⟨_, rfl, _, _, rfl, ⟨by show m.nx < m.nx + 2; omega, A, cp, rfl, hnc, fun hn => ?_, (fun h => by cases h), by simp [i]⟩, _, _, rfl, ⟨by show m.nx + 1 < m.nx + 2; omega, B, cq, rfl, n2, fun hn => ?_, (fun h => by cases h), by simpa using h3⟩, rfl⟩
    · rw [hA hn]
    · rw [h2 hn]; simp
  · have : allRo ((m.nx + 1, some (⟨false, false, .obj (.nest cs [])⟩ : ABlk)) :: (m.nx, some ⟨false, false, .col (.strs hs)⟩) :: roB m.bl) = true := by simp only [allRo, Bool.not_false, Bool.true_and]; exact roB_ro _
    rw [allRo_look this q1] at q2; cases q2
end
def riseB (L l : List Int) : Bool := decide (L.Pairwise (· < ·)) && ((L.all fun z => l.contains z) && (l.all fun z => L.contains z))
theorem riseB_ok {L l : List Int} (h : riseB L l = true) : Rise L l := by
  unfold riseB at h
  simp only [Bool.and_eq_true, decide_eq_true_eq, List.all_eq_true, List.contains_iff_mem] at h
  exact ⟨h.1, fun z => ⟨h.2.1 z, h.2.2 z⟩⟩
theorem rise_okB {L l : List Int} (h : Rise L l) : riseB L l = true := by
  unfold riseB
  simp only [Bool.and_eq_true, decide_eq_true_eq, List.all_eq_true, List.contains_iff_mem]
  exact ⟨h.1, fun z => (h.2 z).1, fun z => (h.2 z).2⟩
abbrev tabM (m : MS) (L zs : List Int) : MS := ⟨(m.nx + 1, some ⟨false, false, .obj (.nest [.strs (rowsE L zs)] [])⟩) :: (m.nx, some ⟨false, false, .col (.strs [tErr, tTim])⟩) :: roB m.bl, m.nx + 2⟩
def e_errs (L : List Int) : Spec := fun m args => match args with
  | [.sl _ a 1 0 1 n _] => match look m.bl a with
    | some ⟨_, _, .col (.ints .i64 zs)⟩ => some (.agg [.sl false m.nx 1 0 1 2 none, .sl false (m.nx + 1) 1 0 1 L.length none], some (tabM m L zs), [decide (n = zs.length), decide (zs.length ≤ 60), decide (0 < zs.length), inZ zs, riseB L zs])
    | _ => none
  | [.val (.slice none 0 0)] => some (.agg [.sl false m.nx 1 0 1 2 none, .sl false (m.nx + 1) 1 0 1 L.length none], some (tabM m L []), [decide (L = [])])
  | _ => none
theorem er_none' : FO_ Tryd.prog L_er Tryd.f15 [] [2] 99 [0, 0, 0] [nilS] ⟨[], 1⟩ = some (.ret (.agg [hd2, nilS]) ⟨[erH], 99⟩ true) := by kernel_rfl
theorem says_head : (Cont.cells [vs tErr, vs tTim]).says (.col (.strs [tErr, tTim])) := says_strs (zs := [tErr, tTim])
theorem nestE (zs : List Int) : nestB [.strs (rowsE [] zs)] = false := rfl
theorem ok_errs (L : List Int) : SpecOk Tryd.prog 15 (e_errs L) := fun m args v mo bs h hb => by
  unfold e_errs at h
  split at h <;> try cases h
  · rename_i nn a n ca
    split at h <;> try cases h
    rename_i _ _ zs ha
    simp only [List.all_cons, List.all_nil, id, Bool.and_true, Bool.and_eq_true] at hb
    obtain ⟨q1, q2, q3, q4, q5⟩ := hb
    have q1 := of_decide_eq_true q1
    have q3 := of_decide_eq_true q3
    subst q1
    have hr := riseB_ok q5
    exact lift_tab (m1 := ⟨[sI 0 zs], 1⟩) (args1 := [aS 0 zs.length]) (cs := [.strs (rowsE L zs)]) rfl rfl
      (sim_slices [⟨nn, a, 1, 1, zs.length, ca, .col (.ints .i64 zs)⟩] (br := []) (fun x hx => by
        simp only [List.mem_cons, List.not_mem_nil, or_false] at hx
        subst hx
        exact SlA.here ha rfl rfl) rfl)
      (fsound (c := bodyOf Tryd.f15) (fun xs w => Tryd.call15 xs w) Tryd.func15 rfl (er_all zs L q4 (of_decide_eq_true q2) hr q3)) rfl says_head
      (.inr ⟨6, true, [], none, rfl, rfl⟩)
  · simp only [List.all_cons, List.all_nil, id, Bool.and_true, decide_eq_true_eq] at hb
    subst hb
    exact lift_tab (m1 := ⟨[], 1⟩) (args1 := [nilS]) (cs := [.strs (rowsE [] [])]) rfl rfl
      (fun ρ w xs hm hx => ⟨fun _ => ⟨0, 0, 0, 0⟩, ⟨(fun l b hl => by cases hl), (fun l b l' b' hl _ _ _ _ => by cases hl), (fun l b l' b' hl _ _ _ => by cases hl)⟩, AV.grounds_rels _ _ rfl hx⟩)
      (fsound (c := bodyOf Tryd.f15) (fun xs w => Tryd.call15 xs w) Tryd.func15 rfl (FO_ret (c := bodyOf Tryd.f15) (m := ⟨[], 1⟩) hE_er mixedY rfl rfl er_none' rfl)) rfl says_head
      (.inl ⟨rfl, rfl, rfl⟩)
def e_rerrs (L : List Int) : Spec := fun m args => match args with
  | [.sl _ a 1 0 1 n _] => match look m.bl a with
    | some ⟨_, _, .col (.ints .i64 zs)⟩ => some (.sl false m.nx 1 0 1 L.length none, some ⟨(m.nx, some ⟨false, false, .obj (.nest [.strs (rowsE L zs)] [])⟩) :: roB m.bl, m.nx + 1⟩, [decide (n = zs.length), decide (zs.length ≤ 60), inZ zs, riseB L zs])
    | _ => none
  | _ => none
theorem ok_rerrs (L : List Int) : SpecOk Tryd.prog 16 (e_rerrs L) := fun m args v mo bs h hb => by
  unfold e_rerrs at h
  split at h <;> try cases h
  rename_i nn a n ca
  split at h <;> try cases h
  rename_i _ _ zs ha
  simp only [List.all_cons, List.all_nil, id, Bool.and_true, Bool.and_eq_true] at hb
  obtain ⟨q1, q2, q4, q5⟩ := hb
  have q1 := of_decide_eq_true q1
  subst q1
  have hr := riseB_ok q5
  refine lift_nest (m1 := ⟨[sI 0 zs], 1⟩) (args1 := [aS 0 zs.length]) (cs := [.strs (rowsE L zs)]) (s := 1) rfl
    (sim_slices [⟨nn, a, 1, 1, zs.length, ca, .col (.ints .i64 zs)⟩] (br := []) (fun x hx => by
      simp only [List.mem_cons, List.not_mem_nil, or_false] at hx
      subst hx
      exact SlA.here ha rfl rfl) rfl) ?_
  by_cases h0 : 0 < L.length
  · exact .inr ⟨true, 1, ⟨[oN 1 (rowsE L zs)], 99⟩, true, [], none, rfl, fsound (c := bodyOf Tryd.f16) (fun xs w => Tryd.call16 xs w) Tryd.func16 rfl (re_whole zs L q4 (of_decide_eq_true q2) hr h0)⟩
  · have e : L = [] := List.eq_nil_of_length_eq_zero (by omega)
    subst e
    have ez : zs = [] := List.eq_nil_iff_forall_not_mem.2 fun z hz => by have := (hr.2 z).2 hz; cases this
    subst ez
    exact .inl ⟨rfl, rfl, ⟨[], 99⟩, fsound (c := bodyOf Tryd.f16) (fun xs w => Tryd.call16 xs w) Tryd.func16 rfl re_zero⟩
end Go.Proofs.YtbjealobiblabaaDoor

namespace Go.Proofs.YtbjealobiblabaaDoor
open Go Go.RowKit Go.Shelf
set_option maxRecDepth 100000
abbrev L_rx (L : List Int) : List (FuncId × Spec) := [(6, e_aw31), (15, e_errs L), (16, e_rerrs L), (14, e_rows)]
theorem hE_rx (L : List Int) : ESound Tryd.prog (envOf (L_rx L)) := env_cons ok_aw31 (env_cons (ok_errs L) (env_cons (ok_rerrs L) (env_cons ok_rowsY env_nil)))
abbrev rxC : List Cut := kc [0,3,4] [0,1,2,3] 9
abbrev rxT (nn : Bool) (n : Nat) (c : Option Nat) (o : AV) (i : Int) : List AV := [.sl nn 0 1 0 1 n c, .unk, .unk, o, vi i] ++ List.replicate 24 .unk
theorem rx_no (L zs : List Int) (nn : Bool) (n : Nat) (c : Option Nat) : FO_ Tryd.prog (L_rx L) Tryd.f4 rxC [] 99 [2, 1] [.sl nn 0 1 0 1 n c] ⟨[sI 0 zs], 1⟩ = some (.ret (vb true) ⟨[], 99⟩ (conj [decide (60 < Int.ofNat n)])) := by kernel_rfl
theorem rx_in (L zs : List Int) (nn : Bool) (n : Nat) (c : Option Nat) : FO_ Tryd.prog (L_rx L) Tryd.f4 rxC [] 99 [2, 0] [.sl nn 0 1 0 1 n c] ⟨[sI 0 zs], 1⟩ = some (.head (hd Tryd.f4 0) (rxT nn n c nilS 0) ⟨[sI 0 zs, (1, none), (2, none), (3, none)], 9⟩ (conj [!decide (60 < Int.ofNat n)])) := by kernel_rfl
theorem rx_0 (L zs : List Int) (nn : Bool) (n : Nat) (c : Option Nat) (i : Int) : HO_ Tryd.prog (L_rx L) Tryd.f4 rxC [] 99 [1] (hd Tryd.f4 0) (rxT nn n c nilS i) ⟨[sI 0 zs], 1⟩ = some (.head (hd Tryd.f4 0) (rxT nn n c (bS 2 1) (IntKind.i64.wrap (i + 1))) ⟨[sI 0 zs, (1, some ⟨true, false, .cells [vi (zs.getD (iy i) 0)]⟩), oI 2 [zs.getD (iy i) 0], (3, none)], 9⟩ (conj [decide (i < Int.ofNat n), decide (0 ≤ i), decide (i.toNat < n), decide (iy i < zs.length)])) := by kernel_rfl
theorem rx_1 (L zs : List Int) (nn : Bool) (n : Nat) (c : Option Nat) (i : Int) (q : Nat) (os : List Int) : HO_ Tryd.prog (L_rx L) Tryd.f4 rxC [] 99 [1] (hd Tryd.f4 0) (rxT nn n c (bS 1 q) i) ⟨[sI 0 zs, oI 1 os], 2⟩ = some (.head (hd Tryd.f4 0) (rxT nn n c (bS 3 (q + 1)) (IntKind.i64.wrap (i + 1))) ⟨[sI 0 zs, (1, none), (2, some ⟨true, false, .cells [vi (zs.getD (iy i) 0)]⟩), oI 3 (os.take q ++ [zs.getD (iy i) 0])], 9⟩ (conj [decide (i < Int.ofNat n), decide (0 ≤ i), decide (i.toNat < n), decide (iy i < zs.length), decide (0 < q), decide ((q + 1) * 8 ≤ 140737488355328), decide (q ≤ os.length)])) := by kernel_rfl
theorem rx_e (L zs : List Int) (nn : Bool) (n : Nat) (c : Option Nat) (i : Int) (q : Nat) (os : List Int) : HO_ Tryd.prog (L_rx L) Tryd.f4 rxC [] 99 [0] (hd Tryd.f4 0) (rxT nn n c (bS 1 q) i) ⟨[sI 0 zs, oI 1 os], 2⟩ = some (.ret (vb (sameS [tErr, tTim] [tErr, tTim] && decide (rowsE L os = rowsE L zs))) ⟨[], 99⟩ (conj [!decide (i < Int.ofNat n), decide (q = os.length), decide (os.length ≤ 60), decide (0 < os.length), inZ os, riseB L os, decide (n = zs.length), decide (zs.length ≤ 60), inZ zs, riseB L zs, decide (L.length = (rowsE L os).length), decide (L.length = (rowsE L zs).length), decide ((rowsE L os).length ≤ 4294967296), (rowsE L os).all fun r => decide (r.length ≤ 4294967296)])) := by kernel_rfl
theorem rx_z (L zs : List Int) (nn : Bool) (n : Nat) (c : Option Nat) (i : Int) : HO_ Tryd.prog (L_rx L) Tryd.f4 rxC [] 99 [0] (hd Tryd.f4 0) (rxT nn n c nilS i) ⟨[sI 0 zs], 1⟩ = some (.ret (vb (sameS [tErr, tTim] [tErr, tTim] && decide (rowsE L [] = rowsE L zs))) ⟨[], 99⟩ (conj [!decide (i < Int.ofNat n), decide (L = []), decide (n = zs.length), decide (zs.length ≤ 60), inZ zs, riseB L zs, decide (L.length = (rowsE L []).length), decide (L.length = (rowsE L zs).length), decide ((rowsE L []).length ≤ 4294967296), (rowsE L []).all fun r => decide (r.length ≤ 4294967296)])) := by kernel_rfl
theorem rowsE_len (L l : List Int) : (rowsE L l).length = L.length := by unfold rowsE; simp
theorem rowsE_all (L l : List Int) : ((rowsE L l).all fun r => decide (r.length ≤ 4294967296)) = true := by
  rw [List.all_eq_true]
  intro r hr
  obtain ⟨z, _, rfl⟩ := List.mem_map.1 hr
  rfl
theorem rx_true (L zs : List Int) : (sameS [tErr, tTim] [tErr, tTim] && decide (rowsE L zs = rowsE L zs)) = true := by unfold sameS; simp
theorem rx_loop (L zs : List Int) (nn : Bool) (c : Option Nat) (hz : inZ zs = true) (hn : zs.length ≤ 60) (hr : Rise L zs) : ∀ (f i : Nat), i + f = zs.length → 0 < i →
    Gives_ Tryd.prog Tryd.f4 1 ⟨hd Tryd.f4 0, rxT nn zs.length c (bS 1 i) i, ⟨[sI 0 zs, oI 1 (zs.take i)], 2⟩⟩ (vb true) ⟨[], 99⟩
  | 0, i, hi, h0 => by
    have e : i = zs.length := by omega
    subst e
    rw [List.take_length]
    have h := rx_e L zs nn zs.length c (zs.length : Int) zs.length zs
    have hL := rise_len hr
    rw [rx_true, conj_ty (by simp only [List.all_cons, List.all_nil, id, Bool.and_true, Bool.and_eq_true, decide_eq_true_eq, hz, rise_okB hr, rowsE_len, rowsE_all, Bool.not_eq_true', decide_eq_false_iff_not]; exact ⟨by simp, trivial, hn, h0, trivial, trivial, trivial, hn, trivial, trivial, trivial, trivial, by omega⟩)] at h
    exact HO_ret (hE_rx L) mixedY rfl h rfl
  | f + 1, i, hi, h0 => by
    have hlt : i < zs.length := by omega
    have h := rx_1 L zs nn zs.length c i i (zs.take i)
    have et : (zs.take i).take i = zs.take i := by rw [List.take_take]; simp
    have e : zs.take i ++ [zs[i]] = zs.take (i + 1) := (List.take_succ_eq_append_getElem hlt).symm
    rw [upY (by omega), iy_nat, gd hlt, et, e, conj_ty (by simp [hlt]; omega)] at h
    exact Goes.gives ((HO_head (hE_rx L) mixedY rfl h rfl).trans (Goes.ren (P := Tryd.prog) (B := 1) (σ := [(0, 0), (1, 3)]) (nx := 2) rfl)) (rx_loop L zs nn c hz hn hr f (i + 1) (by omega) (by omega))
theorem rx_all (L zs : List Int) (nn : Bool) (c : Option Nat) (hz : inZ zs = true) (hr : Rise L zs) :
    Gives_ Tryd.prog Tryd.f4 1 (enterA Tryd.f4 (bodyOf Tryd.f4) [.sl nn 0 1 0 1 zs.length c] ⟨[sI 0 zs], 1⟩) (vb true) ⟨[], 99⟩ := by
  by_cases hn : zs.length ≤ 60
  · have h := rx_in L zs nn zs.length c
    rw [conj_ty (by simp; omega)] at h
    refine Goes.gives ((FO_head (c := bodyOf Tryd.f4) (m := ⟨[sI 0 zs], 1⟩) (hE_rx L) mixedY rfl rfl h rfl).trans (Goes.ren (P := Tryd.prog) (B := 1) (σ := [(0, 0)]) (nx := 1) rfl)) ?_
    by_cases h0 : 0 < zs.length
    · have g := rx_0 L zs nn zs.length c 0
      have e3 : zs.getD (iy 0) 0 = zs[0] := gd h0
      have e : [zs[0]] = zs.take 1 := by rw [List.take_succ_eq_append_getElem h0]; simp
      rw [e3, e, conj_ty (by have : iy 0 = 0 := rfl
                             rw [this]; simp [h0])] at g
      exact Goes.gives ((HO_head (hE_rx L) mixedY rfl g rfl).trans (Goes.ren (P := Tryd.prog) (B := 1) (σ := [(0, 0), (1, 2)]) (nx := 2) rfl)) (rx_loop L zs nn c hz hn hr (zs.length - 1) 1 (by omega) (by omega))
    · have ez : zs = [] := List.eq_nil_of_length_eq_zero (by omega)
      subst ez
      have eL : L = [] := List.eq_nil_iff_forall_not_mem.2 fun z hz => by have := (hr.2 z).1 hz; cases this
      subst eL
      have g := rx_z [] [] nn 0 c 0
      rw [rx_true, conj_ty (by rfl)] at g
      exact HO_ret (hE_rx []) mixedY rfl g rfl
  · have h := rx_no L zs nn zs.length c
    rw [conj_ty (by simp; omega)] at h
    exact FO_ret (c := bodyOf Tryd.f4) (m := ⟨[sI 0 zs], 1⟩) (hE_rx L) mixedY rfl rfl h rfl
/-- There is one. -/
theorem rise_is : ∀ (l : List Int), ∃ L, Rise L l
  | [] => ⟨[], List.Pairwise.nil, fun z => Iff.rfl⟩
  | x :: l => by
    obtain ⟨L, h1, h2⟩ := rise_is l
    by_cases hx : x ∈ L
    · refine ⟨L, h1, fun z => ?_⟩
      rw [h2 z, List.mem_cons]
      exact ⟨.inr, fun h => h.elim (fun e => e ▸ (h2 x).1 hx) id⟩
    · obtain ⟨a, b, _⟩ := insT_ok L.reverse x [] (by simpa using h1) (by simp) (by simpa using hx)
      refine ⟨insT L.reverse x [], a, fun z => ?_⟩
      rw [b, List.mem_cons]
      simp [h2 z]
end Go.Proofs.YtbjealobiblabaaDoor

namespace Go.Proofs.YtbjealobiblabaaDoor
open Go Go.RowKit
/-- The plain wrap, with the world's shape and what is laid handed on. -/
theorem returns_both {H : Type} {enc : TypeId × Value → H} {a : Assume} {C : Checked} {os : Os} {f : FuncId} {fn : Func} {s : ChangeSpec} {conds : List PathCond} {apart fresh handsOn again : Bool} {X : World → Array Value → Prop}
    (hX : ∀ (w w' : World) (args : Array Value), w.heap = w'.heap → X w args → X w' args)
    (own : ownKnob C.prog.godebug = none) (started : os.Started) (noInit : C.prog.inits.idxOf? f = none) (hfn : C.prog.funcs[f]? = some fn)
    (witness : ∃ (w : World) (tape : Tape) (i : Input), w.os = os ∧ (w.forCall tape i).Shaped C.prog ∧ i.vars = [] ∧ Input.okWide C.prog (w.forCall tape i) .any w.heap.size f i ∧
      ((s.pre enc C.prog fn conds apart (w.forCall tape i).memory i.args ∧ X (w.forCall tape i).memory i.args) ∧ sizedMet enc C.prog fn (OpenSpec.ofChange s) apart (w.forCall tape i).memory i.args) ∧ a.holds C.prog (lone (Frame.enter C.prog f i.args .normal) [] (w.forCall tape i)))
    (contract : ∀ (W : World) (base : Nat) (args : Array Value) (ds gs : List (DataW H)) (before : List MemPlace),
      (∀ (j : Nat) t v, fn.params[j]? = some t → args[j]? = some v → Value.okWide C.prog W .any base t v) →
      DataW.Whole enc C.prog fn.params.toList s.vars apart W args.toList ds gs before → X W args → W.ShapedOpen C.prog →
      Calls C.prog f args W fun e W' => ∃ v, e = .returned v ∧ s.post enc C.prog fn apart fresh handsOn again W args v W') :
    ReturnsInHanded a C os f .any (fun w args => (s.pre enc C.prog fn conds apart w args ∧ X w args) ∧ sizedMet enc C.prog fn (OpenSpec.ofChange s) apart w args) (s.post enc C.prog fn apart fresh handsOn again) := by
  refine returnsInHanded_of_calls own started noInit witness ?_
  intro w tape i _ hsh _ hok hpre _
  obtain ⟨_, _, _, fn', hfn', _, _, _, _, hval⟩ := hok
  have e : fn' = fn := Option.some.inj (hfn'.symm.trans hfn)
  subst e
  obtain ⟨⟨⟨ds, gs, before, hw, _⟩, hx⟩, _⟩ := hpre
  have hw' := DataW.Whole.of_heap (w' := w.forCall tape i) (by rfl) hw
  refine (contract (w.forCall tape i) w.heap.size i.args ds gs before hval hw' (hX _ _ _ (by rfl) hx) hsh).mono fun e W' ⟨v, he, hp⟩ => ?_
  subst he
  exact ChangeSpec.post_blind hp
def laidD : List (String × DataW Unit) := [("unicode/utf8.acceptRanges", Rows.laid_unicode_utf8_acceptRanges), ("unicode/utf8.first", Rows.laid_unicode_utf8_first)]
abbrev mlG (x : Int) : ABlk := ⟨false, false, .obj (.glob 0 (.ints .i64 [x]))⟩
/-- The place of MaxLen. -/
theorem ml_there {W : World} (h : W.ShapedOpen Tryd.prog) : ∃ x, ∀ (ρ : Rho) (nx : Nat), (mlG x).ok ρ nx ⟨0, 0, 0, 0⟩ W := by
  obtain ⟨x, hx⟩ := Go.Proofs.cell_of_shapedOpen_int (g := 0) (k := .i64) (t := 3) (zero := #[.int .i64 0]) h (of_decide_eq_true (by kernel_rfl)) (by kernel_rfl) rfl (by kernel_rfl) (by kernel_rfl) Tryd.underlying3
  refine ⟨x, fun ρ nx => ⟨.inl ?_, fun r c a ha => by cases c <;> (simp only [Cont.at] at ha; cases ha), (fun h => by cases h), (fun h => by cases h), fun q hq => ?_⟩⟩
  · simp only [World.cell?] at hx
    split at hx
    · rename_i hh; exact (Array.getElem?_eq_some_iff.1 hh).1
    · cases hx
  · cases hq
    simp only [World.cell?] at hx
    split at hx
    · rename_i c0 t0 f0 hh
      refine ⟨rfl, rfl, c0, _, _, hh, fun j v hv => ?_⟩
      simp only [Col.at, Prod.mk.injEq, decide_eq_true_eq] at hv
      obtain ⟨e, hl⟩ := hv
      cases e
      have : j = 0 := by simp at hl; omega
      subst this
      exact hx
    · cases hx
end Go.Proofs.YtbjealobiblabaaDoor
