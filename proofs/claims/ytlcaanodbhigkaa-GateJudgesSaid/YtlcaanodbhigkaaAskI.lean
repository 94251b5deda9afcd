/-
  Requests in a slice that came in.
-/
import Derived.Test.YtlcaanodbhigkaaLaw
namespace Go.Proofs.Ytlcaanodbhigkaa
open Go Go.ChangeShapes Go.WideShapes Go.ChangeAt Go.RowKit Go.Deep
/-- A request in a slice that came in. -/
def AskAt (w : World) (B : Nat) (A : Option Addr) (n : Nat) : Prop :=
  0 < n → ∃ b o, A = some ⟨b, o, none⟩ ∧ b < B ∧ ∀ j, j < n → ∃ (u v z : Int) (f : Bool), w.cell? ⟨b, o + j * 4, none⟩ = some (.int .i64 u) ∧ w.cell? ⟨b, o + j * 4 + 1, none⟩ = some (.int .i64 v) ∧
    w.cell? ⟨b, o + j * 4 + 2, none⟩ = some (.int .i64 z) ∧ w.cell? ⟨b, o + j * 4 + 3, none⟩ = some (.bool f)
theorem open_asks {H : Type} {enc : TypeId × Value → H} {w : World} {base : Nat} {held : Bool} {r : Reach} {b0 : Nat} {v : Value} {d : DataW H} {ps : List MemPlace}
    (hval : Value.okWide Try.prog w r b0 38 v) (h : DataW.Trod enc Try.prog w base (fun _ => true) held 38 v d ps) :
    ∃ (A : Option Addr) (n c : Nat), v = .slice A n c ∧ n ≤ c ∧ c ≤ maxLen ∧ AskAt w w.heap.size A n := by
  obtain ⟨A, n, c, rfl, h1, h2, h3⟩ := open_structs Try.underlying38 Try.underlying48 (by kernel_rfl) (by kernel_rfl) (by decide) hval h
  refine ⟨A, n, c, rfl, h1, h2, fun hn => ?_⟩
  obtain ⟨b, o, e, hb, hi⟩ := h3 hn
  refine ⟨b, o, e, hb, fun j hj => ?_⟩
  obtain ⟨u0, c0, t0⟩ := hi j hj 0 _ rfl
  obtain ⟨u1, c1, t1⟩ := hi j hj 1 _ rfl
  obtain ⟨u2, c2, t2⟩ := hi j hj 2 _ rfl
  obtain ⟨u3, c3, t3⟩ := hi j hj 3 _ rfl
  obtain ⟨x, rfl, _⟩ := field_int Try.underlying3 t0
  obtain ⟨y, rfl, _⟩ := field_int Try.underlying3 t1
  obtain ⟨z, rfl, _⟩ := field_int Try.underlying3 t2
  obtain ⟨f, rfl⟩ := field_bool Try.underlying4 t3
  exact ⟨x, y, z, f, c0, c1, c2, c3⟩
end Go.Proofs.Ytlcaanodbhigkaa
