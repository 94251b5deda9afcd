/-
  Records: tables of kinds.
-/
import Derived.Test.YtpmcflidggofkaaRB
import Derived.Test.YtpmcflidggofkaaExG
import Derived.Test.YtpmcflidggofkaaExI
namespace Go.Proofs.Ytpmcflidggofkaa
open Go Go.RowKit
def arL : List Int := [4, 0, 1, 1, 0, 1, 1, 2, 2, 1, 3, 3, 2, 3, 2, 1, 1, 0, 0, 0, 0]
def wdL : List ByteArray := [⟨#[97, 108, 108, 111, 99]⟩, ⟨#[103, 108, 111, 98, 97, 108]⟩, ⟨#[114, 101, 108, 101, 97, 115, 101]⟩, ⟨#[112, 117, 115, 104]⟩, ⟨#[112, 111, 112]⟩, ⟨#[119, 101, 97, 107]⟩, ⟨#[117, 110, 119, 101, 97, 107]⟩, ⟨#[100, 101, 114, 101, 102]⟩, ⟨#[99, 111, 112, 121]⟩, ⟨#[110, 117, 108, 108]⟩, ⟨#[108, 111, 97, 100]⟩, ⟨#[115, 116, 111, 114, 101]⟩, ⟨#[103, 101, 116]⟩, ⟨#[115, 101, 116]⟩, ⟨#[115, 97, 109, 101]⟩, ⟨#[115, 105, 122, 101]⟩, ⟨#[97, 103, 101]⟩, ⟨#[99, 111, 108, 108, 101, 99, 116]⟩, ⟨#[115, 116, 97, 116, 115]⟩, ⟨#[99, 101, 110, 115, 117, 115]⟩, ⟨#[112, 114, 111, 102, 105, 108, 101]⟩]
def recAr (k : Int) : Int := bif record_Is_0 k then arL.getD k.toNat 0 else -1
def recWd (k : Int) : ByteArray := bif record_Is_0 k then wdL.getD k.toNat ⟨#[]⟩ else ⟨#[]⟩
theorem is_nat {k : Int} (h : record_Is_0 k = true) : ∃ n : Nat, k = (n : Int) ∧ n < 21 := by
  unfold record_Is_0 at h
  by_cases h0 : 0 ≤ k
  · rw [decide_eq_true h0] at h
    have h1 := of_decide_eq_true h
    exact ⟨k.toNat, by omega, by omega⟩
  · rw [decide_eq_false h0] at h; cases h
theorem nat_is {n : Nat} (h : n < 21) : record_Is_0 (n : Int) = true := by
  unfold record_Is_0
  rw [decide_eq_true (show (0 : Int) ≤ n by omega), decide_eq_true (show (n : Int) < 21 by omega)]
  rfl
-- outside: a stand-in that says no
def e_no : Spec := fun _ args => match args with
  | [.val (.int .i64 k)] => some (vb false, none, [!record_Is_0 k])
  | _ => none
theorem ok_no : SpecOk Try.prog 28 e_no := fun m args v mo bs h hb => by
  unfold e_no at h
  split at h
  · rename_i k
    cases h
    simp only [List.all_cons, List.all_nil, id, Bool.and_true, Bool.not_eq_true'] at hb
    have := ok_record_Is m [vi k] _ _ _ rfl rfl
    unfold s_record_Is at this
    rw [hb] at this
    exact this
  · cases h
def L_no : List (FuncId × Spec) := (28, e_no) :: L_haymowref34_Arity
theorem hE_no : ESound Try.prog (envOf L_no) := env_cons ok_no hE_haymowref34_Arity
theorem ar_out (k : Int) : F_ Try.prog L_no Try.f29 [] [] 99 [vi k] noMem = some (.ret (vi (-1)) ⟨[], 99⟩ (bif !record_Is_0 k then true else false)) := by kernel_rfl
theorem wd_out (k : Int) : F_ Try.prog L_no Try.f30 [] [] 99 [vi k] noMem = some (.ret (vs ⟨#[]⟩) ⟨[], 99⟩ (bif !record_Is_0 k then true else false)) := by kernel_rfl
theorem ar_in : ∀ n : Nat, n < 21 → F_ Try.prog L_haymowref34_Arity Try.f29 [] [] 99 [vi (n : Int)] noMem = some (.ret (vi (arL.getD n 0)) ⟨[], 99⟩ true)
  | 0, _ => by kernel_rfl
  | 1, _ => by kernel_rfl
  | 2, _ => by kernel_rfl
  | 3, _ => by kernel_rfl
  | 4, _ => by kernel_rfl
  | 5, _ => by kernel_rfl
  | 6, _ => by kernel_rfl
  | 7, _ => by kernel_rfl
  | 8, _ => by kernel_rfl
  | 9, _ => by kernel_rfl
  | 10, _ => by kernel_rfl
  | 11, _ => by kernel_rfl
  | 12, _ => by kernel_rfl
  | 13, _ => by kernel_rfl
  | 14, _ => by kernel_rfl
  | 15, _ => by kernel_rfl
  | 16, _ => by kernel_rfl
  | 17, _ => by kernel_rfl
  | 18, _ => by kernel_rfl
  | 19, _ => by kernel_rfl
  | 20, _ => by kernel_rfl
  | n + 21, h => by omega
theorem wd_in : ∀ n : Nat, n < 21 → F_ Try.prog L_haymowref34_Arity Try.f30 [] [] 99 [vi (n : Int)] noMem = some (.ret (vs (wdL.getD n ⟨#[]⟩)) ⟨[], 99⟩ true)
  | 0, _ => by kernel_rfl
  | 1, _ => by kernel_rfl
  | 2, _ => by kernel_rfl
  | 3, _ => by kernel_rfl
  | 4, _ => by kernel_rfl
  | 5, _ => by kernel_rfl
  | 6, _ => by kernel_rfl
  | 7, _ => by kernel_rfl
  | 8, _ => by kernel_rfl
  | 9, _ => by kernel_rfl
  | 10, _ => by kernel_rfl
  | 11, _ => by kernel_rfl
  | 12, _ => by kernel_rfl
  | 13, _ => by kernel_rfl
  | 14, _ => by kernel_rfl
  | 15, _ => by kernel_rfl
  | 16, _ => by kernel_rfl
  | 17, _ => by kernel_rfl
  | 18, _ => by kernel_rfl
  | 19, _ => by kernel_rfl
  | 20, _ => by kernel_rfl
  | n + 21, h => by omega
def e_ar : Spec := fun _ args => match args with
  | [.val (.int .i64 k)] => some (vi (recAr k), none, [])
  | _ => none
theorem ok_ar : SpecOk Try.prog 29 e_ar := fun m args v mo bs h hb => by
  unfold e_ar at h
  split at h
  · rename_i k
    cases h
    unfold recAr
    cases hk : record_Is_0 k with
    | true =>
      obtain ⟨n, rfl, hn⟩ := is_nat hk
      exact pure_fn (c := bodyOf Try.f29) hE_haymowref34_Arity mixed (fun xs w => Try.call29 xs w) Try.func29 rfl (ar_in n hn) rfl rfl
    | false =>
      have := ar_out k
      rw [hk] at this
      exact pure_fn (c := bodyOf Try.f29) hE_no mixed (fun xs w => Try.call29 xs w) Try.func29 rfl this rfl rfl
  · cases h
def e_wd : Spec := fun _ args => match args with
  | [.val (.int .i64 k)] => some (vs (recWd k), none, [])
  | _ => none
theorem ok_wd : SpecOk Try.prog 30 e_wd := fun m args v mo bs h hb => by
  unfold e_wd at h
  split at h
  · rename_i k
    cases h
    unfold recWd
    cases hk : record_Is_0 k with
    | true =>
      obtain ⟨n, rfl, hn⟩ := is_nat hk
      exact pure_fn (c := bodyOf Try.f30) hE_haymowref34_Arity mixed (fun xs w => Try.call30 xs w) Try.func30 rfl (wd_in n hn) rfl rfl
    | false =>
      have := wd_out k
      rw [hk] at this
      exact pure_fn (c := bodyOf Try.f30) hE_no mixed (fun xs w => Try.call30 xs w) Try.func30 rfl this rfl rfl
  · cases h
def wdCol : Cont := .col (.strs wdL)
theorem run_words : F_ Try.prog L_haymowref34_Arity Try.f26 [] [0] 99 [] noMem = some (.ret (.sl true 0 1 0 1 21 (some 21)) ⟨[(0, some ⟨true, false, wdCol⟩)], 99⟩ true) := by kernel_rfl
def e_words : Spec := fun m args => match args with
  | [] => some (.sl true m.nx 1 0 1 21 (some 21), some (m.new ⟨true, false, wdCol⟩), [])
  | _ => none
theorem ok_words : SpecOk Try.prog 26 e_words := fun m args v mo bs h hb => by
  unfold e_words at h
  split at h
  · cases h
    exact lift_fresh (fsound (c := bodyOf Try.f26) (fun xs w => Try.call26 xs w) Try.func26 rfl (F_ret hE_haymowref34_Arity mixed rfl rfl run_words)) rfl rfl rfl
  · cases h
def L_rw : List (FuncId × Spec) := (26, e_words) :: (30, e_wd) :: (29, e_ar) :: L_haymowref34_Arity
theorem hE_rw : ESound Try.prog (envOf L_rw) := env_cons ok_words (env_cons ok_wd (env_cons ok_ar hE_haymowref34_Arity))
end Go.Proofs.Ytpmcflidggofkaa
