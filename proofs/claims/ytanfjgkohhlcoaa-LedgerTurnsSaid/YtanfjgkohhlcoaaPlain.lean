/-
  A law of plain values, from what its text hands back.
-/
import Derived.Test.YtanfjgkohhlcoaaArg
namespace Go.Proofs.Ytanfjgkohhlcoaa
open Go Go.RowKit
theorem plain_gives {l : List (FuncId × Spec)} {g : FuncId} {fn : Func} {c : Code} {args : List AV} {xs : List Value} {m' : MS} {w : World} {cuts : List Cut} {ns : List Nat} {top : Nat} (hE : ESound Try.prog (envOf l)) (hm : MixedOk Try.prog) (hf : Try.prog.funcs[g]? = some fn) (hb : fn.body = some c)
    (h : F_ Try.prog l fn cuts ns top args noMem = some (.ret (vb true) m' true)) (hx : AV.rels (fun _ => ⟨0, 0, 0⟩) 0 args xs) (hC : cutsB 0 cuts = true := by rfl) : Gives g xs.toArray w (.bool true) :=
  gives_true (m := noMem) hf hb (F_ret hE hm hC hb h) rfl mrel_none hx
end Go.Proofs.Ytanfjgkohhlcoaa
