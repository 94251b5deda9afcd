/-
  The statements of layer 13 (shape), proved: ShapeSums.
-/
import Derived.Test.YtnkpegdmbocgaaaInRow
import Derived.Test.YtnkpegdmbocgaaaSB
namespace Go.Proofs.Ytnkpegdmbocgaaa
open Go Go.ChangeShapes Go.WideShapes Go.ChangeAt Go.RowKit Go.Deep
def lsC : List Cut := [(2, [0, 1, 5, 6], [0], 1)]
def lsTm (small z i : Int) (n c : Nat) : List AV := [.sl false 0 2 0 1 n (some c), vi small, .unk, .unk, .unk, vi z, vi i] ++ List.replicate 24 .unk
theorem ls_in (small : Int) (n c : Nat) (ps rs : List Int) : F_ Try.prog L_sum Try.f10 lsC [] 99 [.sl false 0 2 0 1 n (some c), vi small] ⟨[(0, some (shB ps rs))], 1⟩ =
    bif decide (100 < (n : Int)) then some (Fin_.ret (vb true) ⟨[], 99⟩ true)
    else some (Fin_.head (hd Try.f10 0) (lsTm small 0 0 n c) ⟨[(0, some (shB ps rs))], 1⟩ true) := by kernel_rfl
theorem ls_round (small z i : Int) (n c : Nat) (ps rs : List Int) : H_ Try.prog L_sum Try.f10 lsC [] 99 (hd Try.f10 0) (lsTm small z i n c) ⟨[(0, some (shB ps rs))], 1⟩ =
    bif decide (i < n) then some (Fin_.head (hd Try.f10 0) (lsTm small (IntKind.i64.wrap (z + haymowref13_Charge_0 (ps.getD i.toNat 0) (rs.getD i.toNat 0) small)) (IntKind.i64.wrap (i + 1)) n c) ⟨[(0, some (shB ps rs))], 1⟩ (inS i n ps rs))
    else some (Fin_.ret (vb (totF (fun k => shape_Charge_0 (ps.getD k 0) (rs.getD k 0) small) 0 n 0 == z)) ⟨[], 99⟩ (bif decide (n ≤ 9223372036854775807) then bif decide (n ≤ ps.length) then bif decide (n ≤ rs.length) then true else false else false else false)) := by kernel_rfl
theorem ls_loop (small : Int) (n c : Nat) (hn : n ≤ 9223372036854775807) (ps rs : List Int) (h1 : n ≤ ps.length) (h2 : n ≤ rs.length) : ∀ (j i : Nat) (z : Int), i + j = n → totF (fun k => shape_Charge_0 (ps.getD k 0) (rs.getD k 0) small) 0 n 0 = totF (fun k => shape_Charge_0 (ps.getD k 0) (rs.getD k 0) small) i j z →
    Gives_ Try.prog Try.f10 1 ⟨hd Try.f10 0, lsTm small z i n c, ⟨[(0, some (shB ps rs))], 1⟩⟩ (vb true) ⟨[], 99⟩
  | 0, i, z, hi, hz => by
    refine H_ret (cuts := lsC) (ns := []) (top := 99) hE_sum mixed rfl ?_
    rw [ls_round, decide_eq_false (show ¬ ((i : Int) < (n : Int)) by omega), decide_eq_true hn, decide_eq_true h1, decide_eq_true h2, hz]
    simp [totF]
  | j + 1, i, z, hi, hz => by
    refine Goes.gives (H_head (f := Try.f10) (cuts := lsC) (ns := []) (top := 99) hE_sum mixed rfl ?_) (ls_loop small n c hn ps rs h1 h2 j (i + 1) _ (by omega) (hz.trans rfl))
    rw [ls_round, decide_eq_true (show (i : Int) < (n : Int) by omega), inS_ok (by omega) h1 h2, show IntKind.i64.wrap ((i : Int) + 1) = ((i + 1 : Nat) : Int) by rw [wr _ (by omega) (by omega)]; omega, ← charge13]
    simp only [Int.toNat_natCast, cond_true]
theorem sums_all (A : Option Addr) (n c : Nat) (cs : List Col) (i : LI) (small : Int) (w : World) (hin : InB w A n (.rows cs) i) (hnc : n ≤ c) (hc : c ≤ 9223372036854775807) (hf : Fits n [.i .i64, .i .i64] cs) : Gives 10 #[.slice A n c, .int .i64 small] w (.bool true) := by
  obtain ⟨_, _, rfl, ⟨ps, rfl, h1, _⟩, _, _, rfl, ⟨rs, rfl, h2, _⟩, rfl⟩ := hf
  have hm : MRel (fun _ => i) ⟨[(0, some (shB ps rs))], 1⟩ w := mrel_one (hin.ok _ _)
  have hx : AV.rels (fun _ => i) 1 [.sl false 0 2 0 1 n (some c), vi small] [.slice A n c, .int .i64 small] := by
    simp only [AV.rels]
    exact ⟨_, _, rfl, hin.arg (ρ := fun _ => i) (by omega) hnc 2 1, _, _, rfl, by simp [AV.rel], rfl⟩
  refine gives_true (c := bodyOf Try.f10) (m' := ⟨[], 99⟩) Try.func10 rfl ?_ rfl hm hx
  by_cases hn : 100 < n
  · refine F_ret hE_sum mixed (cuts := lsC) (ns := []) (top := 99) rfl rfl ?_
    rw [ls_in, decide_eq_true (show (100 : Int) < (n : Int) by omega)]
    rfl
  · refine Goes.gives (F_head (f := Try.f10) (c := bodyOf Try.f10) (cuts := lsC) (ns := []) (top := 99) hE_sum mixed rfl rfl (by
      rw [ls_in, decide_eq_false (show ¬ ((100 : Int) < (n : Int)) by omega)]
      rfl)) (ls_loop small n c (by omega) ps rs (by omega) (by omega) n 0 0 (by omega) rfl)

set_option maxRecDepth 100000 in
theorem sums_lifted (os : Os) (started : os.Started) (H : Type) (enc : TypeId × Value → H) :
    ReturnsInHanded {} Try.checked os 10 .any (Rows.shapeSumsSpec.pre6 enc Try.prog Try.f10 Rows.shapeSumsRow.domain false) (Rows.shapeSumsSpec.post enc Try.prog Try.f10 false true false false) := by
  refine returnsInHanded_of_change (C := Try.checked) Try.own started (by kernel_rfl) Try.func10
    (ChangeSpec.witness6 (enc := enc) (C := Try.checked) false ⟨#[], #[.slice none 0 0, .int .i64 0], []⟩ 8 (by kernel_rfl) (by kernel_rfl) (by kernel_rfl) (by kernel_rfl)) ?_
  intro W base args ds gs before hval0 hW hcnd hsized
  have hval : ∀ (j : Nat) t v, Try.f10.params[j]? = some t → args[j]? = some v → Value.okWide Try.prog W .any base t v := hval0
  have hW' := hW
  obtain ⟨p, q, hA0, hV, rfl, hfz, hnd⟩ := hW
  have hA : DataW.TrodAll enc Try.prog W 0 (fun _ => true) true Try.f10.params.toList args.toList ds p := hA0
  rw [Try.params10] at hA hval
  obtain ⟨v0, v1, d0, d1, p0, p1, rfl, rfl, rfl, h0, h1⟩ := trodAll_two hA
  obtain ⟨A, n, c, cs, i, rfl, hnc, hc, hf, hin⟩ := open_rows [.i .i64, .i .i64] Try.underlying63 Try.underlying30 (by kernel_rfl) (by kernel_rfl) (by decide) (by kernel_rfl) (hval 0 _ v0 rfl rfl) h0
  obtain ⟨small, rfl, rfl, rfl, wsmall⟩ := open_int Try.underlying3 (hval 1 _ v1 rfl rfl) h1
  refine Gives.use (sums_all A n c cs i small W hin hnc hc hf) fun W' hb => ?_
  exact ⟨_, rfl, law_post Try.laidOut (by kernel_rfl) (by kernel_rfl) Try.underlying4 rfl hW' ⟨rfl, rfl, rfl⟩ hb⟩
theorem sums_holds : Rows.ShapeSumsSaid :=
  OpenClaim.holds_of_wide 10 Try.f10 rfl rfl rfl rfl rfl rfl rfl ⟨rfl, rfl, rfl, rfl, rfl⟩ rfl rfl rfl rfl rfl (by kernel_rfl) Try.func10 (by kernel_rfl)
    (of_decide_eq_true (by kernel_rfl)) (by unfold Func.isWrapper; first | (rw [if_pos (by decide +kernel)]; kernel_rfl) | (rw [if_neg (by decide +kernel)]; exact ⟨rfl, rfl⟩))
    (fun os started H enc _ => sums_lifted os started H enc)
end Go.Proofs.Ytnkpegdmbocgaaa
