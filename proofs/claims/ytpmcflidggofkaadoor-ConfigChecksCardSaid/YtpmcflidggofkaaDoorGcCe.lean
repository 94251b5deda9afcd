/-
  What the program's functions hand back.
-/
import Derived.Test.YtpmcflidggofkaaDoorGcCd
namespace Go.Proofs.YtpmcflidggofkaaDoor
open Go Go.ChangeShapes Go.WideShapes Go.ChangeAt Go.RowKit Go.Deep
theorem inI_of {zs : List Int} (h : ∀ z ∈ zs, (Lit.int .i64 z).wf = true) : inI zs = true := by
  unfold inI
  rw [List.all_eq_true]
  intro z hz
  have := wf_i64 (h z hz)
  rw [decide_eq_true this.1, decide_eq_true this.2]
  rfl
theorem inI_5 {a b c d e : Int} (h1 : (Lit.int .i64 a).wf = true) (h2 : (Lit.int .i64 b).wf = true) (h3 : (Lit.int .i64 c).wf = true) (h4 : (Lit.int .i64 d).wf = true) (h5 : (Lit.int .i64 e).wf = true) : inI [a, b, c, d, e] = true :=
  inI_of fun z hz => by
    simp only [List.mem_cons, List.not_mem_nil, or_false] at hz
    rcases hz with rfl | rfl | rfl | rfl | rfl <;> assumption
theorem ml_mrel {W : World} (hsh : W.ShapedOpen Tryd.prog) : ∃ x, MRel (fun _ => ⟨0, 0, 0⟩) (mlM [x]) W := by
  obtain ⟨x, hx⟩ := ml_there hsh
  exact ⟨x, mrel_one (hx _ _)⟩
theorem cr_any (s : ByteArray) {W : World} (hsh : W.ShapedOpen Tryd.prog) : Gives 5 #[.string s] W (.bool true) := by
  obtain ⟨x, hm⟩ := ml_mrel hsh
  exact gives_true (m := mlM [x]) (args := [vs s]) (xs := [.string s]) (c := bodyOf Tryd.f5) Tryd.func5 rfl (F_ret hE_c1 mixedD rfl rfl (cr_true x s)) rfl hm ⟨_, _, rfl, by simp [AV.rel], rfl⟩
theorem agg5_rel {ρ : Rho} {nx : Nat} (a b c d e : Int) : AV.rel ρ nx (.agg [vi a, vi b, vi c, vi d, vi e]) (.agg #[.int .i64 a, .int .i64 b, .int .i64 c, .int .i64 d, .int .i64 e]) := by
  simp only [AV.rel, AV.rels]
  exact ⟨_, rfl, _, _, rfl, rfl, _, _, rfl, rfl, _, _, rfl, rfl, _, _, rfl, rfl, _, _, rfl, rfl, rfl⟩
theorem cb_any (a b c d e lim : Int) (hz : inI [a, b, c, d, e] = true) (hl : -9223372036854775808 ≤ lim ∧ lim ≤ 9223372036854775807) {W : World} (hsh : W.ShapedOpen Tryd.prog) : Gives 7 #[.agg #[.int .i64 a, .int .i64 b, .int .i64 c, .int .i64 d, .int .i64 e], .int .i64 lim] W (.bool true) := by
  obtain ⟨x, hm⟩ := ml_mrel hsh
  exact gives_true (m := mlM [x]) (args := [.agg [vi a, vi b, vi c, vi d, vi e], vi lim]) (xs := [.agg #[.int .i64 a, .int .i64 b, .int .i64 c, .int .i64 d, .int .i64 e], .int .i64 lim]) (c := bodyOf Tryd.f7) Tryd.func7 rfl (F_ret hE_cb mixedD rfl rfl (cb_true x a b c d e lim hz hl)) rfl hm
    ⟨_, _, rfl, agg5_rel a b c d e, _, _, rfl, by simp [AV.rel], rfl⟩
theorem cc_any (zs : List Int) (A : Option Addr) (n k : Nat) (i : LI) (a b c d e lim : Int) {W : World} (hz : inI [a, b, c, d, e] = true) (hin : InB W A n (.col (.ints .i64 zs)) i) (hl : zs.length = n) (hnc : n ≤ k) (hsh : W.ShapedOpen Tryd.prog) :
    Gives 6 #[.agg #[.int .i64 a, .int .i64 b, .int .i64 c, .int .i64 d, .int .i64 e], .slice A n k, .int .i64 lim] W (.bool true) := by
  obtain ⟨x, hx⟩ := ml_there hsh
  have hm : MRel (fun l => if l = 0 then i else ⟨0, 0, 0⟩) ⟨[dlA zs, (1, some (mlG x))], 2⟩ W := mrel_two (hin.ok _ _) (hx _ _) rfl rfl
  have ha := InB.arg (ρ := fun l => if l = 0 then i else ⟨0, 0, 0⟩) (l := 0) (nx := 2) (c := k) (n := n) hin (by omega) hnc 1 1
  subst hl
  obtain ⟨r, ck, hck, hrun⟩ := cc_true x false (some k) zs a b c d e lim hz
  exact gives_true (m := ⟨[dlA zs, (1, some (mlG x))], 2⟩) (args := [.agg [vi a, vi b, vi c, vi d, vi e], .sl false 0 1 0 1 zs.length (some k), vi lim]) (xs := [.agg #[.int .i64 a, .int .i64 b, .int .i64 c, .int .i64 d, .int .i64 e], .slice A zs.length k, .int .i64 lim]) (c := bodyOf Tryd.f6) Tryd.func6 rfl (F_ret (hE_ccr r ck hck) mixedD rfl rfl hrun) rfl hm
    ⟨_, _, rfl, agg5_rel a b c d e, _, _, rfl, ha, _, _, rfl, by simp [AV.rel], rfl⟩
end Go.Proofs.YtpmcflidggofkaaDoor
