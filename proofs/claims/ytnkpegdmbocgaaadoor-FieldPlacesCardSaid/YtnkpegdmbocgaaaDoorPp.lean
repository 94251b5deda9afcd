/-
  The document's Places: its contract.
-/
import Derived.Test.YtnkpegdmbocgaaaDoorPb
namespace Go.Proofs.YtnkpegdmbocgaaaDoor
open Go Go.RowKit
set_option maxRecDepth 100000
def L_b : List (FuncId × Spec) := [(23, e_bits)]
theorem hE_b : ESound Tryd.prog (envOf L_b) := env_cons ok_bits env_nil
abbrev rpC : List Cut := [(0, [3, 4, 5], [0, 1, 3], 7), (1, [3, 4, 5], [0, 1, 3], 7), (2, [3, 4, 5], [0, 1, 3], 7)]
abbrev rpT (o : AV) (i : Int) : List AV := [.unk, .unk, .unk, .ptr 0 1 0 0, o, vi i, .unk, .unk, .unk, .unk, .unk, .unk, .unk, .unk, .unk, .unk, .unk, .unk, .unk, .unk]
abbrev rpM (bs : List Bool) (b1 b3 : Option ABlk) (top : Nat) : MS := ⟨[(0, some ⟨true, false, .col (.bools bs)⟩), (1, b1), (3, b3)], top⟩
abbrev rpM2 (bs : List Bool) (b1 : Option ABlk) (top : Nat) : MS := ⟨[(0, some ⟨true, false, .col (.bools bs)⟩), (1, b1)], top⟩
theorem rp_begin (x : Int) : F_ Tryd.prog L_b Tryd.f8 rpC [] 99 [vu x] noMem = some (.head (hd Tryd.f8 0) (rpT nilO 0) (rpM (bitX x.toNat) none none 7) (conj [decide (0 ≤ x), decide (x ≤ 18446744073709551615)])) := by kernel_rfl
theorem rp_round0 (bs : List Bool) (i : Int) : H_ Tryd.prog L_b Tryd.f8 rpC [1] 99 (hd Tryd.f8 0) (rpT nilO i) (rpM2 bs none 2) =
    bif decide (i < 64) then bif bs.getD (smI i) false then some (.head (hd Tryd.f8 0) (rpT (slO 3 1) (IntKind.i64.wrap (i + 1))) (rpM bs none (slB [i]) 7) (conj [decide (0 ≤ i), decide (i.toNat < 64), decide (smI i < bs.length)]))
      else some (.head (hd Tryd.f8 0) (rpT nilO (IntKind.i64.wrap (i + 1))) (rpM bs none none 7) (conj [decide (0 ≤ i), decide (i.toNat < 64), decide (smI i < bs.length)]))
    else some (.ret nilO ⟨[(1, none)], 99⟩ true) := by kernel_rfl
theorem rp_round1 (bs : List Bool) (i : Int) (n : Nat) (zs : List Int) : H_ Tryd.prog L_b Tryd.f8 rpC [1] 99 (hd Tryd.f8 0) (rpT (slO 1 n) i) (rpM2 bs (slB zs) 2) =
    bif decide (i < 64) then bif bs.getD (smI i) false then some (.head (hd Tryd.f8 0) (rpT (slO 3 (n + 1)) (IntKind.i64.wrap (i + 1))) (rpM bs none (slB (zs.take n ++ [i])) 7) (conj [decide (0 ≤ i), decide (i.toNat < 64), decide (smI i < bs.length), decide (0 < n), decide ((n + 1) * 8 ≤ 140737488355328), decide (n ≤ zs.length)]))
      else some (.head (hd Tryd.f8 0) (rpT (slO 1 n) (IntKind.i64.wrap (i + 1))) (rpM bs (slB zs) none 7) (conj [decide (0 ≤ i), decide (i.toNat < 64), decide (smI i < bs.length)]))
    else some (.ret (slO 1 n) ⟨[(1, slB zs)], 99⟩ true) := by kernel_rfl
/-- What is left to gather. -/
def restF (bs : List Bool) (i j : Nat) : List Int := ((List.range' i j).filter fun k => bs.getD k false).map Int.ofNat
theorem restF_succ (bs : List Bool) (i j : Nat) : restF bs i (j + 1) = (bif bs.getD i false then [(i : Int)] else []) ++ restF bs (i + 1) j := by
  unfold restF
  rw [List.range'_succ, List.filter_cons]
  cases bs.getD i false <;> simp
abbrev rpS (f : Func) (bs : List Bool) (i : Int) (zs : List Int) : St := ⟨hd f 0, rpT (outO 1 zs) i, rpM2 bs (outK zs) 2⟩
theorem rp_loop (bs : List Bool) (hbs : bs.length = 64) : ∀ (j i : Nat) (zs : List Int), i + j = 64 → zs.length ≤ i →
    Gives_ Tryd.prog Tryd.f8 0 (rpS Tryd.f8 bs i zs) (outO 1 (zs ++ restF bs i j)) ⟨[(1, outK (zs ++ restF bs i j))], 99⟩
  | 0, i, zs, hi, _ => by
    have hc : decide ((i : Int) < 64) = false := decide_eq_false (by omega)
    rw [show restF bs i 0 = [] from rfl, List.append_nil]
    cases zs with
    | nil =>
      have h := rp_round0 bs i
      rw [hc, cond_false] at h
      exact H_ret hE_b mixed rfl h
    | cons z zs =>
      have h := rp_round1 bs i (z :: zs).length (z :: zs)
      rw [hc, cond_false] at h
      exact H_ret hE_b mixed rfl h
  | j + 1, i, zs, hi, hz => by
    have hc : decide ((i : Int) < 64) = true := decide_eq_true (by omega)
    have hw : IntKind.i64.wrap ((i : Int) + 1) = ((i + 1 : Nat) : Int) := by rw [IntWalk.i64_in _ (by omega)]; rfl
    have h3 : conj [decide (0 ≤ (i : Int)), decide (i < 64), decide (i < bs.length)] = true := by
      simp only [conj, Bool.and_eq_true, decide_eq_true_eq]
      exact ⟨by omega, by omega, by omega, trivial⟩
    rw [restF_succ, ← List.append_assoc]
    have IH := rp_loop bs hbs j (i + 1) (zs ++ bif bs.getD i false then [(i : Int)] else []) (by omega) (by cases bs.getD i false <;> simp <;> omega)
    refine Goes.gives (Goes.trans (s' := ⟨hd Tryd.f8 0, rpT (bif bs.getD i false then slO 3 (zs.length + 1) else outO 1 zs) ((i + 1 : Nat) : Int), bif bs.getD i false then rpM bs none (slB (zs ++ [(i : Int)])) 7 else rpM bs (outK zs) none 7⟩) ?_ ?_) IH
    · cases zs with
      | nil =>
        have h := rp_round0 bs i
        rw [hc, cond_true, smI_eq, Int.toNat_natCast, hw, h3] at h
        cases hb : bs.getD i false with
        | true => rw [hb] at h; exact H_head hE_b mixed rfl h
        | false => rw [hb] at h; exact H_head hE_b mixed rfl h
      | cons z zs =>
        have h := rp_round1 bs i (z :: zs).length (z :: zs)
        rw [hc, cond_true, smI_eq, Int.toNat_natCast, hw, h3, List.take_length] at h
        have h6 : conj [decide (0 ≤ (i : Int)), decide (i < 64), decide (i < bs.length), decide (0 < (z :: zs).length), decide (((z :: zs).length + 1) * 8 ≤ 140737488355328), decide ((z :: zs).length ≤ (z :: zs).length)] = true := by
          simp only [conj, Bool.and_eq_true, decide_eq_true_eq]
          have : (z :: zs).length = zs.length + 1 := rfl
          rw [this] at hz ⊢
          exact ⟨by omega, by omega, by omega, by omega, by omega, by omega, trivial⟩
        rw [h6] at h
        cases hb : bs.getD i false with
        | true => rw [hb] at h; exact H_head hE_b mixed rfl h
        | false => rw [hb] at h; exact H_head hE_b mixed rfl h
    · cases hb : bs.getD i false with
      | true =>
        have hr := Goes.ren (P := Tryd.prog) (B := 0) (σ := [(0, 0), (1, 3)]) (nx := 2) (s := ⟨hd Tryd.f8 0, rpT (slO 3 (zs.length + 1)) ((i + 1 : Nat) : Int), rpM bs none (slB (zs ++ [(i : Int)])) 7⟩) rfl
        have e : renSt [(0, 0), (1, 3)] 2 ⟨hd Tryd.f8 0, rpT (slO 3 (zs.length + 1)) ((i + 1 : Nat) : Int), rpM bs none (slB (zs ++ [(i : Int)])) 7⟩ = rpS Tryd.f8 bs ((i + 1 : Nat) : Int) (zs ++ [(i : Int)]) := by
          cases zs with
          | nil => rfl
          | cons z zs =>
            have : (z :: zs).length + 1 = (z :: (zs ++ [(i : Int)])).length := by simp
            rw [this]
            rfl
        rw [e] at hr
        exact hr
      | false =>
        have hr := Goes.ren (P := Tryd.prog) (B := 0) (σ := [(0, 0), (1, 1)]) (nx := 2) (s := ⟨hd Tryd.f8 0, rpT (outO 1 zs) ((i + 1 : Nat) : Int), rpM bs (outK zs) none 7⟩) rfl
        have e : renSt [(0, 0), (1, 1)] 2 ⟨hd Tryd.f8 0, rpT (outO 1 zs) ((i + 1 : Nat) : Int), rpM bs (outK zs) none 7⟩ = rpS Tryd.f8 bs ((i + 1 : Nat) : Int) (zs ++ []) := by
          rw [List.append_nil]
          cases zs with
          | nil => rfl
          | cons z zs => rfl
        rw [e] at hr
        exact hr
theorem restF_bits (n : Nat) : restF (bitX n) 0 64 = placesN n := rfl
theorem rp_gives (n : Nat) (hn : n < 2 ^ 64) : Gives_ Tryd.prog Tryd.f8 0 (enterA Tryd.f8 (bodyOf Tryd.f8) [vu n] noMem) (outO 1 (placesN n)) ⟨[(1, outK (placesN n))], 99⟩ := by
  have h := rp_begin n
  rw [show conj [decide (0 ≤ (n : Int)), decide ((n : Int) ≤ 18446744073709551615)] = true by simp [conj]; omega, Int.toNat_natCast] at h
  refine Goes.gives (Goes.trans (F_head hE_b mixed rfl rfl h) ?_) (rp_loop (bitX n) rfl 64 0 [] rfl (Nat.zero_le _))
  exact Goes.ren (σ := [(0, 0), (1, 1)]) (nx := 2) rfl
def e_rp : Spec := fun m args => match args with
  | [.val (.int .u64 x)] => some (.sl false m.nx 1 0 1 (placesN x.toNat).length none, some ⟨(m.nx, some ⟨false, false, .col (.ints .i64 (placesN x.toNat))⟩) :: m.bl, m.nx + 1⟩, [decide (0 ≤ x), decide (x ≤ 18446744073709551615)])
  | _ => none
theorem ok_rp : SpecOk Tryd.prog 8 e_rp := fun m args v mo bs h hb => by
  unfold e_rp at h
  split at h <;> try cases h
  rename_i x
  simp at hb
  obtain ⟨n, rfl⟩ : ∃ n : Nat, x = n := ⟨x.toNat, by omega⟩
  have hn : n < 2 ^ 64 := by omega
  rw [Int.toNat_natCast]
  have hs : FSound Tryd.prog 8 noMem [vu n] (outO 1 (placesN n)) ⟨[(1, outK (placesN n))], 99⟩ :=
    fsound (c := bodyOf Tryd.f8) (fun xs w => Tryd.call8 xs w) Tryd.func8 rfl (rp_gives n hn)
  refine lift_slice1 (m1 := noMem) (args1 := [vu n]) rfl rfl rfl (fun ρ w xs hm hx => ⟨fun _ => ⟨0, 0, 0⟩, mrel_none, ?_⟩) ?_
  · simp only [AV.rels, AV.rel] at hx ⊢
    exact hx
  · generalize placesN n = L at hs
    cases L with
    | nil => exact .inl ⟨rfl, fun r c a ha => by cases c <;> simp [Cont.at, Col.at] at ha, _, hs⟩
    | cons z zs => exact .inr ⟨1, 99, hs⟩
end Go.Proofs.YtnkpegdmbocgaaaDoor
