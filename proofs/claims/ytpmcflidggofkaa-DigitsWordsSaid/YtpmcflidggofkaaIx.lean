/-
  strings.IndexByte, off the shelf.
-/
import Derived.Test.YtpmcflidggofkaaEx14
import Derived.Test.YtpmcflidggofkaaLyD
import Derived.Test.YtpmcflidggofkaaDm
namespace Go.Proofs.Ytpmcflidggofkaa
open Go Go.RowKit Go.Shelf
/-- Where a byte first stands in a text; -1: nowhere. -/
def ixB (s : ByteArray) (c : Int) : Int := Lib.indexByte s.data.toList c.toNat.toUInt8
def e_ixb : Spec := fun _ args => match args with
  | [.val (.string s), .val (.int .u8 c)] => some (vi (ixB s c), none, [])
  | _ => none
theorem ok_ixb : SpecOk Try.prog 37 e_ixb := fun m args v mo bs h hb => by
  unfold e_ixb at h
  split at h
  · rename_i s c
    cases h
    refine calls_fn (fun xs w => Try.call37 xs w) fun ρ xs w hr => ?_
    simp only [AV.rels, AV.rel] at hr
    obtain ⟨_, _, rfl, rfl, _, _, rfl, rfl, rfl⟩ := hr
    refine Calls.mono (Any.stringslite_IndexByte Try.lays217 s c w) ?_
    rintro e w' ⟨rfl, rfl⟩
    exact ⟨⟨_, rfl, by simp only [AV.rel]; rfl⟩, rfl⟩
  · cases h
def L_ix : List (FuncId × Spec) := [(37, e_ixb)]
theorem hE_ix : ESound Try.prog (envOf L_ix) := env_cons ok_ixb env_nil
end Go.Proofs.Ytpmcflidggofkaa
