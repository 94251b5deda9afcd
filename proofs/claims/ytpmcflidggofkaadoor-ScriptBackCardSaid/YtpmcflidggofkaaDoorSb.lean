/-
  The statement ScriptBack of layer 42 (script), proved: a tied card. No condition.
-/
import Derived.Test.YtpmcflidggofkaaDoorSbf
namespace Go.Proofs.YtpmcflidggofkaaDoor
open Go Go.ChangeShapes Go.WideShapes Go.ChangeAt Go.RowKit Go.Deep
/-- Blocks that are all for reading. -/
theorem mrel_ro {ρ : Rho} {m : MS} {w : World} (hro : allRo m.bl = true) (h : ∀ l b, look m.bl l = some b → l < m.nx ∧ b.ok ρ m.nx (ρ l) w) : MRel ρ m w where
  blk := h
  apart l b _ _ hl _ hw := by rw [allRo_look hro hl] at hw; cases hw
  deep l b _ _ hl _ hw := by rw [allRo_look hro hl] at hw; cases hw
theorem sbl_any (A B : Option Addr) (n c p d : Nat) (i k : LI) (zs : List Int) (zss : List (List Int)) {W : World} (hin : InB W A n (.col (.ints .i64 zs)) i) (hnc : n ≤ c) (hn : zs.length = n) (hnin : NestIn W B p [.ints .i64 zss] k) (hpd : p ≤ d) (hp : zss.length = p)
    (hm : ∀ j, j < p → (zss.getD j []).length ≤ 9223372036854775807 ∧ ∀ m, m < (zss.getD j []).length → (Lit.int .i64 ((zss.getD j []).getD m 0)).wf = true) (hz : inI zs = true) (hsh : W.ShapedOpen Tryd.prog) :
    Gives 10 #[.slice A n c, .slice B p d] W (.bool true) := by
  obtain ⟨x, hx⟩ := ml_there hsh
  have hR : MRel (fun l => if l = 0 then i else if l = 1 then k else ⟨0, 0, 0, 0⟩) ⟨sbA x zs zss, 3⟩ W := mrel_ro rfl fun l b hl => by
    match l, hl with
    | 0, hl => cases hl; exact ⟨by show (0 : Nat) < 3; omega, hin.ok _ _⟩
    | 1, hl => cases hl; exact ⟨by show (1 : Nat) < 3; omega, hnin.ok _ _⟩
    | 2, hl => cases hl; exact ⟨by show (2 : Nat) < 3; omega, hx _ _⟩
    | l + 3, hl => cases hl
  have ha := InB.arg (ρ := fun l => if l = 0 then i else if l = 1 then k else ⟨0, 0, 0, 0⟩) (l := 0) (nx := 3) (c := c) (n := n) hin (by omega) hnc 1 1
  have hb := NestIn.arg (ρ := fun l => if l = 0 then i else if l = 1 then k else ⟨0, 0, 0, 0⟩) (l := 1) (nx := 3) (c := d) (n := p) hnin (by omega) hpd 1 1
  have hlen : ∀ j, (zss.getD j []).length ≤ 9223372036854775807 := fun j => by
    by_cases hj : j < p
    · exact (hm j hj).1
    · rw [List.getD_eq_getElem?_getD, List.getElem?_eq_none (by omega)]
      exact Nat.zero_le _
  have hzz : ∀ z ∈ zss, inI z = true := fun z hz => by
    obtain ⟨j, hj, rfl⟩ := List.mem_iff_getElem.1 hz
    have h1 := (hm j (by omega)).2
    rw [List.getD_eq_getElem?_getD, List.getElem?_eq_getElem hj, Option.getD_some] at h1
    refine inI_of fun y hy => ?_
    obtain ⟨t, ht, rfl⟩ := List.mem_iff_getElem.1 hy
    have h2 := h1 t ht
    rw [List.getD_eq_getElem?_getD, List.getElem?_eq_getElem ht, Option.getD_some] at h2
    exact h2
  exact gives_true (m := ⟨sbA x zs zss, 3⟩) (args := [.sl false 0 1 0 1 n (some c), .sl false 1 1 0 1 p (some d)]) (xs := [.slice A n c, .slice B p d]) (c := bodyOf Tryd.f10) Tryd.func10 rfl
    (sb_all x zs zss n p (some c) (some d) hn hp hlen hz hzz) rfl hR ⟨_, _, rfl, ha, _, _, rfl, hb, rfl⟩
set_option maxRecDepth 100000 in
theorem scriptBack_lifted (os : Os) (started : os.Started) (H : Type) (enc : TypeId × Value → H) :
    ReturnsInHanded {} Tryd.checked os 10 .any (fun w args => (Rows.scriptBackSpec.pre enc Tryd.prog Tryd.f10 [] false w args ∧ laidMetH Tryd.prog laidD w) ∧ sizedMet enc Tryd.prog Tryd.f10 (OpenSpec.ofChange Rows.scriptBackSpec) false w args)
      (Rows.scriptBackSpec.post enc Tryd.prog Tryd.f10 false true false false) := by
  refine returns_both (C := Tryd.checked) (X := fun w _ => laidMetH Tryd.prog laidD w) (fun _ _ _ hh h => h.of_heap hh) Tryd.own started (by kernel_rfl) Tryd.func10
    (ChangeSpec.witness_shaped (enc := enc) (C := Tryd.checked) (os := os) (X := fun w _ => laidMetH Tryd.prog laidD w) false (World.laidAll Tryd.prog os laidD) #[.slice none 0 0, .slice none 0 0] 8 (World.laidAll_os _ _ _)
      (World.shaped_of_ZipB (by kernel_rfl) (by kernel_rfl)) (by kernel_rfl) (by kernel_rfl) (by kernel_rfl)
      (by rw [MakeChecks.laidMetH_plain _ _ _ (by kernel_rfl)]; exact laidMet_laidAll _ (by kernel_rfl) (by kernel_rfl))) ?_
  intro W base args ds gs before hval0 hW hL hsh
  have hval : ∀ (j : Nat) t v, Tryd.f10.params[j]? = some t → args[j]? = some v → Value.okWide Tryd.prog W .any base t v := hval0
  have hW' := hW
  obtain ⟨p, q, hA0, hV, rfl, hfz, hnd⟩ := hW
  have hA : DataW.TrodAll enc Tryd.prog W 0 (fun _ => true) true Tryd.f10.params.toList args.toList ds p := hA0
  rw [Tryd.params10] at hA hval
  obtain ⟨v0, v1, d0, d1, p0, p1, rfl, rfl, rfl, h0, h1⟩ := trodAll_two hA
  obtain ⟨A, n, c, zs, rfl, hnn, hcn, hrn, hwn⟩ := open_reads Tryd.underlying22 Tryd.underlying3 (by kernel_rfl) (hval 0 _ v0 rfl rfl) h0
  obtain ⟨i, hin⟩ := in_ints hrn
  obtain ⟨B, p, d, zss, k, rfl, hpd, hdm, hp, hm, hnin⟩ := open_intss Tryd.underlying74 Tryd.underlying22 Tryd.underlying3 (by kernel_rfl) (by kernel_rfl) (by kernel_rfl) (by kernel_rfl) (hval 1 _ v1 rfl rfl) h1
  refine Gives.use (sbl_any A B n c p d i k zs zss hin hnn hrn.ints hnin hpd hp hm (inI_of hwn) hsh) fun W' hb => ?_
  exact ⟨_, rfl, law_post Tryd.laidOut (by kernel_rfl) (by kernel_rfl) Tryd.underlying4 rfl hW' ⟨rfl, rfl, rfl⟩ hb⟩
theorem scriptBack_holds : Rows.ScriptBackSaid :=
  OpenClaim.holds_of_wide 10 Tryd.f10 rfl rfl rfl rfl rfl rfl rfl ⟨rfl, rfl, rfl, rfl, rfl⟩ rfl rfl rfl rfl rfl (by kernel_rfl) Tryd.func10 (by kernel_rfl)
    (of_decide_eq_true (by kernel_rfl)) (by unfold Func.isWrapper; first | (rw [if_pos (by decide +kernel)]; kernel_rfl) | (rw [if_neg (by decide +kernel)]; exact ⟨rfl, rfl⟩))
    (fun os started H enc _ => scriptBack_lifted os started H enc)
theorem scriptBack_card : Rows.ScriptBackCardSaid :=
  Claim7.holds_tied_plain_at .later [] [.data, .pinned] true (true, "e0de02e10d6383853cafe197c6223b3f67160a2e6ada19b86f354aa0fd611d1b") false scriptBack_holds (fun _ h => by cases h) (by kernel_rfl) (fun _ h => by cases h) scriptBack_row_tie rfl ⟨rfl, rfl⟩ (by kernel_rfl) rfl
    (fun f fn hf hfn => by
      obtain rfl : f = 10 := Option.some.inj ((show Tryd.prog.funcNamed "haymow/haymowlaw42.ScriptBack" = some 10 by kernel_rfl).symm.trans hf) |>.symm
      obtain rfl : fn = Tryd.f10 := (Option.some.inj (Tryd.func10.symm.trans hfn)).symm
      exact ⟨by kernel_rfl, fun j t ht => by
        rw [Tryd.params10] at ht
        have hm : t ∈ [22, 74] := by simpa using Array.mem_of_getElem? ht
        have hall : ([22, 74].all fun u => !Tryd.prog.wantsStandIn u) = true := by kernel_rfl
        exact (show Tryd.prog.wantsStandIn t = false by simpa using List.all_eq_true.1 hall t hm)⟩)
    (by kernel_rfl)
end Go.Proofs.YtpmcflidggofkaaDoor
