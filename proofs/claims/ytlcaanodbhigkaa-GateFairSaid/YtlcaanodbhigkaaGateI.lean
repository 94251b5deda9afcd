/-
  What the gate's statements share: memory in their loops, requests in a slice that came in.
-/
import Derived.Test.YtlcaanodbhigkaaLaw
import Derived.Test.YtlcaanodbhigkaaGateL
import Derived.Test.YtlcaanodbhigkaaGateR
namespace Go.Proofs.Ytlcaanodbhigkaa
open Go Go.ChangeShapes Go.WideShapes Go.ChangeAt Go.RowKit Go.Deep
/-- The settings' block, the gate's block. -/
def GInv (w : World) (G : Nat) (l t s k d T q b : Int) (wr : World) : Prop :=
  Below w.heap.size w wr ∧ Blk wr w.heap.size 23 #[.int .i64 l, .int .i64 t, .int .i64 s, .int .i64 k, .int .i64 d] ∧
    Blk wr G 40 #[.int .i64 l, .int .i64 t, .int .i64 s, .int .i64 k, .int .i64 d, .int .i64 T, .int .i64 q, .int .i64 b] ∧ w.heap.size < G
theorem GInv.later {w : World} {G : Nat} {l t s k d T q b : Int} {wr w' : World} (h : GInv w G l t s k d T q b wr) (hb : Below wr.heap.size wr w') : GInv w G l t s k d T q b w' :=
  ⟨h.1.trans (hb.mono h.1.size), h.2.1.below hb h.2.1.lt, h.2.2.1.below hb h.2.2.1.lt, h.2.2.2⟩
theorem GInv.set_ {w : World} {G : Nat} {l t s k d T q b T' q' b' : Int} {wr : World} (h : GInv w G l t s k d T q b wr) : GInv w G l t s k d T' q' b' ((((((((wr.setCell ⟨G, 0, none⟩ (.int .i64 l)).setCell ⟨G, 1, none⟩ (.int .i64 t)).setCell ⟨G, 2, none⟩ (.int .i64 s)).setCell ⟨G, 3, none⟩ (.int .i64 k)).setCell ⟨G, 4, none⟩ (.int .i64 d)).setCell ⟨G, 5, none⟩ (.int .i64 T')).setCell ⟨G, 6, none⟩ (.int .i64 q')).setCell ⟨G, 7, none⟩ (.int .i64 b')) := by
  obtain ⟨h1, h2, h3, h4⟩ := h
  refine ⟨?_, ?_, Blk.as ((((((((h3.set_ 0 _).set_ 1 _).set_ 2 _).set_ 3 _).set_ 4 _).set_ 5 _).set_ 6 _).set_ 7 _) (by simp), h4⟩
  · repeat (refine Below.setCell ?_ (Nat.le_of_lt h4) _)
    exact h1
  · repeat (refine Blk.far ?_ (Nat.ne_of_lt h4) _)
    exact h2
theorem and_mask (u : Int) : 0 ≤ bits .and .i64 u 1073741823 ∧ bits .and .i64 u 1073741823 ≤ 1073741823 := by
  show 0 ≤ IntKind.i64.wrap (((BitVec.ofInt 64 u &&& BitVec.ofInt 64 1073741823).toNat : Nat) : Int) ∧ IntKind.i64.wrap (((BitVec.ofInt 64 u &&& BitVec.ofInt 64 1073741823).toNat : Nat) : Int) ≤ 1073741823
  have h : (BitVec.ofInt 64 u &&& BitVec.ofInt 64 1073741823).toNat ≤ 1073741823 := by
    rw [BitVec.toNat_and]
    exact Nat.le_trans Nat.and_le_right (by decide)
  rw [IntKind.wrap_i64]
  omega
/-- A request in a slice that came in. -/
def AskAt (w : World) (B : Nat) (A : Option Addr) (n : Nat) : Prop :=
  0 < n → ∃ b o, A = some ⟨b, o, none⟩ ∧ b < B ∧ ∀ j, j < n → ∃ (u v z : Int) (f : Bool), w.cell? ⟨b, o + j * 4, none⟩ = some (.int .i64 u) ∧ w.cell? ⟨b, o + j * 4 + 1, none⟩ = some (.int .i64 v) ∧
    w.cell? ⟨b, o + j * 4 + 2, none⟩ = some (.int .i64 z) ∧ w.cell? ⟨b, o + j * 4 + 3, none⟩ = some (.bool f)
theorem open_asks {H : Type} {enc : TypeId × Value → H} {w : World} {base : Nat} {held : Bool} {r : Reach} {b0 : Nat} {v : Value} {d : DataW H} {ps : List MemPlace}
    (hval : Value.okWide Try.prog w r b0 38 v) (h : DataW.Trod enc Try.prog w base (fun _ => true) held 38 v d ps) :
    ∃ (A : Option Addr) (n c : Nat), v = .slice A n c ∧ n ≤ c ∧ c ≤ maxLen ∧ AskAt w w.heap.size A n := by
  obtain ⟨A, n, c, rfl, h1, h2, h3⟩ := open_structs Try.underlying38 Try.underlying48 (by kernel_rfl) (by kernel_rfl) (by decide) hval h
  refine ⟨A, n, c, rfl, h1, h2, fun hn => ?_⟩
  obtain ⟨b, o, e, hb, hi⟩ := h3 hn
  refine ⟨b, o, e, hb, fun j hj => ?_⟩
  obtain ⟨u0, c0, t0⟩ := hi j hj 0 _ rfl
  obtain ⟨u1, c1, t1⟩ := hi j hj 1 _ rfl
  obtain ⟨u2, c2, t2⟩ := hi j hj 2 _ rfl
  obtain ⟨u3, c3, t3⟩ := hi j hj 3 _ rfl
  obtain ⟨x, rfl, _⟩ := field_int Try.underlying3 t0
  obtain ⟨y, rfl, _⟩ := field_int Try.underlying3 t1
  obtain ⟨z, rfl, _⟩ := field_int Try.underlying3 t2
  obtain ⟨f, rfl⟩ := field_bool Try.underlying4 t3
  exact ⟨x, y, z, f, c0, c1, c2, c3⟩
end Go.Proofs.Ytlcaanodbhigkaa
