/-
  What the law's own 'places' hands back, in any memory that holds the table.
-/
import Derived.Test.YtnkpegdmbocgaaaDoorPw
import Derived.Test.YtnkpegdmbocgaaaDoorLro
namespace Go.Proofs.YtnkpegdmbocgaaaDoor
open Go Go.RowKit
set_option maxRecDepth 100000
abbrev L_pl (P : Program) (f : Func) : List (FuncId × Spec) := (24, inl P [] f) :: L_tz
theorem hE_pl : ESound Tryd.prog (envOf (L_pl Tryd.prog Tryd.f24)) := env_cons (inl_ok (c := bodyOf Tryd.f24) env_nil mixed (fun xs w => Tryd.call24 xs w) Tryd.func24 rfl) hE_tz
abbrev plM (x most : Int) : MS := ⟨[(0, some ⟨false, false, .obj (.glob 0 (.ints .u8 tzTab))⟩), (1, some ⟨true, false, .cells [vi most]⟩), (2, some ⟨true, false, .cells [vu x]⟩), (3, some ⟨true, false, .cells [nilO]⟩)], 4⟩
abbrev plC : List Cut := [(888889, [0, 1, 3, 4, 5, 6, 7, 13], [0, 1, 2, 3], 4), (888890, [0, 1, 3, 4, 5, 6, 7, 13], [0, 1, 2, 3], 4), (888891, [0, 1, 3, 4, 5, 6, 7, 13], [0, 1, 2, 3], 4)]
theorem pl_begin (x most : Int) : F_ Tryd.prog (L_pl Tryd.prog Tryd.f24) Tryd.f9 plC [] 99 [vu x, vi most] tzM = some (.head (rg Tryd.f9 0) (plTm x most) (plM x most) true) := by kernel_rfl
theorem pl_end0 (x most : Int) (st : Nat) (pe : Option Code) (hp : pe = none ∨ pe = some (.exit 0)) : H_ Tryd.prog [] Tryd.f9 [] [] 199 (jumpI pe (rg Tryd.f9 0).tail) (plTm x most) ⟨upd (itM (rg Tryd.f9 0) st pe x most nilO 5 none 99).bl 4 none, 99⟩ =
    some (.ret (.tup [nilO, vb true]) ⟨[], 199⟩ true) := by
  rcases hp with rfl | rfl <;> kernel_rfl
theorem pl_end1 (x most : Int) (st : Nat) (pe : Option Code) (n : Nat) (zs : List Int) (hp : pe = none ∨ pe = some (.exit 0)) : H_ Tryd.prog [] Tryd.f9 [] [5] 199 (jumpI pe (rg Tryd.f9 0).tail) (plTm x most) ⟨upd (itM (rg Tryd.f9 0) st pe x most (slO 5 n) 5 (slB zs) 99).bl 4 none, 99⟩ =
    some (.ret (.tup [slO 5 n, vb true]) ⟨[(5, slB zs)], 199⟩ true) := by
  rcases hp with rfl | rfl <;> kernel_rfl
theorem pl_gives (n : Nat) (hn : n < 2 ^ 64) (most : Int) {v : AV} {m' : MS}
    (hend : ∀ st pe, (pe = none ∨ pe = some (.exit 0)) → Gives_ Tryd.prog Tryd.f9 1 ⟨jumpI pe (rg Tryd.f9 0).tail, plTm n most, ⟨upd (itM (rg Tryd.f9 0) st pe n most (outO 5 ((placesN n).take most.toNat)) 5 (outK ((placesN n).take most.toNat)) 99).bl 4 none, 99⟩⟩ v m') :
    Gives_ Tryd.prog Tryd.f9 1 (enterA Tryd.f9 (bodyOf Tryd.f9) [vu n, vi most] tzM) v m' := by
  have hlen : (placesN n).length ≤ 64 := by
    unfold placesN
    rw [List.length_map]
    exact Nat.le_trans (List.length_filter_le _ _) (by simp)
  obtain ⟨st, pe, hp, hg⟩ := it_gives n most (placesN n) n [] hn rfl (by simpa using hlen)
  rw [List.nil_append, List.length_nil, Nat.sub_zero] at hg
  refine (F_head (m := tzM) hE_pl mixed rfl rfl (pl_begin n most)).gives ?_
  refine range_at (m := plM n most) (j := pe) (st := st) (fn := Tryd.f28) (c := bodyOf Tryd.f28) (gf := 28) (gi := 28) (first := []) (cap := [.ptr 2 1 0 0]) (u := .tup []) (by kernel_rfl) (by kernel_rfl) (fun xs w => Tryd.call28 xs w) Tryd.func28 rfl ?_ (by rfl) (show (1 : Nat) ≤ 4 by omega) (by kernel_rfl) (hend st pe hp)
  exact (FE_head (itE_ok []) mixed rfl rfl (it_begin n most)).gives hg
theorem fs_pl0 (n : Nat) (hn : n < 2 ^ 64) (most : Int) (h : (placesN n).take most.toNat = []) : FSound Tryd.prog 9 tzM [vu n, vi most] (.tup [nilO, vb true]) ⟨[], 199⟩ :=
  fsound (c := bodyOf Tryd.f9) (fun xs w => Tryd.call9 xs w) Tryd.func9 rfl (pl_gives n hn most fun st pe hp => by
    rw [h]
    exact H_ret env_nil mixed rfl (pl_end0 n most st pe hp))
theorem fs_pl1 (n : Nat) (hn : n < 2 ^ 64) (most : Int) (h : (placesN n).take most.toNat ≠ []) : FSound Tryd.prog 9 tzM [vu n, vi most] (.tup [slO 5 ((placesN n).take most.toNat).length, vb true]) ⟨[(5, slB ((placesN n).take most.toNat))], 199⟩ :=
  fsound (c := bodyOf Tryd.f9) (fun xs w => Tryd.call9 xs w) Tryd.func9 rfl (pl_gives n hn most fun st pe hp => by
    generalize (placesN n).take most.toNat = L at h
    cases L with
    | nil => exact absurd rfl h
    | cons z zs => exact H_ret env_nil mixed rfl (pl_end1 n most st pe (z :: zs).length (z :: zs) hp))
def e_pl : Spec := fun m args => match args with
  | [.val (.int .u64 x), .val (.int .i64 most)] => match isTab m with
    | true => some (.tup [.sl false m.nx 1 0 1 ((placesN x.toNat).take most.toNat).length none, vb true], some ⟨(m.nx, some ⟨false, false, .col (.ints .i64 ((placesN x.toNat).take most.toNat))⟩) :: m.bl, m.nx + 1⟩, [decide (0 ≤ x), decide (x ≤ 18446744073709551615)])
    | false => none
  | _ => none
theorem ok_pl : SpecOk Tryd.prog 9 e_pl := fun m args v mo bs h hb => by
  unfold e_pl at h
  split at h <;> try cases h
  rename_i x most
  split at h <;> try cases h
  rename_i ht
  simp at hb
  unfold isTab at ht
  split at ht <;> try cases ht
  split at ht <;> try cases ht
  rename_i l _ _ _ _ _ zs hl
  have ht := of_decide_eq_true ht
  subst ht
  obtain ⟨n, rfl⟩ : ∃ n : Nat, x = n := ⟨x.toNat, by omega⟩
  have hn : n < 2 ^ 64 := by omega
  rw [Int.toNat_natCast]
  refine lift_slice (m1 := tzM) (args1 := [vu n, vi most]) (rest := [vb true]) rfl rfl rfl rfl (fun ρ w xs hm hx => ?_) ?_
  · refine ⟨fun _ => ρ l, mrel_one (hm.view hl rfl _ _), ?_⟩
    simp only [AV.rels, AV.rel] at hx ⊢
    exact hx
  · by_cases h0 : (placesN n).take most.toNat = []
    · refine .inl ⟨by rw [h0]; rfl, fun r c a ha => ?_, _, fs_pl0 n hn most h0⟩
      rw [h0] at ha
      cases c <;> simp [Cont.at, Col.at] at ha
    · exact .inr ⟨5, 199, fs_pl1 n hn most h0⟩
end Go.Proofs.YtnkpegdmbocgaaaDoor
