/-
  The statement ReportLines of layer 31 (report), proved: a tied card. No condition.
-/
import Derived.Test.YtbjealobiblabaaDoorRpLe
namespace Go.Proofs.YtbjealobiblabaaDoor
open Go Go.ChangeShapes Go.WideShapes Go.ChangeAt Go.RowKit Go.Deep
/-- A field that is a text. -/
theorem field_str {H : Type} {enc : TypeId × Value → H} {P : Program} {w : World} {base : Nat} {held : Bool} {t : TypeId} {v : Value} (ht : P.underlying t = some .string) (h : ∃ n y, DataW.trod enc P w base (fun _ => true) held n t [v] = some y) : ∃ s, v = .string s := by
  obtain ⟨n, y, h⟩ := h
  obtain ⟨s, h1, _⟩ := DataW.trod_string ht h
  simp at h1
  exact ⟨s, h1⟩
/-- Texts in a slice that stands in a cell. -/
theorem open_strcell {H : Type} {enc : TypeId × Value → H} {P : Program} {w : World} {base : Nat} {held : Bool} {t e : TypeId} {u : Value} (ht : P.underlying t = some (.slice e)) (he : P.underlying e = some .string) (hl : leavesT P 9 e = some [e]) (hC : P.cellsOf e = 1)
    (h : ∃ m y, DataW.trod enc P w base (fun _ => true) held m t [u] = some y) :
    ∃ (ss : List ByteArray) (A : Option Addr) (c : Nat), u = .slice A ss.length c ∧ ss.length ≤ c ∧ c ≤ maxLen ∧ (0 < ss.length → ∃ b o, A = some ⟨b, o, none⟩ ∧ (∃ cur e fz, w.heap[b]? = some (.cells cur e fz)) ∧ ∀ (ρ' : Rho) (nx' : Nat), (Cont.col (.strs ss)).rel ρ' nx' (fun t => w.cell? ⟨b, o + t, none⟩)) := by
  obtain ⟨A, n, c, rfl, h1, h2, h3⟩ := open_slcell ht hl hC (by simp) h
  by_cases hn : 0 < n
  · obtain ⟨b, o, rfl, hb, hi⟩ := h3 hn
    obtain ⟨zs, hz, hp⟩ := lists_of (⟨⟨[]⟩⟩ : ByteArray) (p := fun j z => w.cell? ⟨b, o + j, none⟩ = some (.string z)) n fun j hj => by
      obtain ⟨v, g1, g2⟩ := hi j hj 0 e rfl
      obtain ⟨z, rfl⟩ := field_str he g2
      exact ⟨z, by simpa using g1⟩
    subst hz
    refine ⟨zs, _, c, rfl, h1, h2, fun _ => ⟨b, o, rfl, cell_cells (hp 0 hn), fun ρ nx r c a ha => ?_⟩⟩
    cases c <;> simp only [Cont.at] at ha <;> try cases ha
    simp only [Col.at, Option.some.injEq, Prod.mk.injEq, decide_eq_true_eq] at ha
    obtain ⟨rfl, hlt⟩ := ha
    exact ⟨by simp [Cont.width], _, by simpa [Cont.width] using hp r hlt, by simp [AV.rel]⟩
  · have h0 : n = 0 := by omega
    subst h0
    exact ⟨[], A, c, rfl, h1, h2, fun h => absurd h (by simp)⟩
/-- Slices of texts in a slice that stands in a cell. -/
theorem open_strscell {H : Type} {enc : TypeId × Value → H} {P : Program} {w : World} {base : Nat} {held : Bool} {t t1 e : TypeId} {u : Value} (ht : P.underlying t = some (.slice t1)) (ht1 : P.underlying t1 = some (.slice e)) (he : P.underlying e = some .string) (hl : leavesT P 9 e = some [e]) (hC : P.cellsOf e = 1) (hl1 : leavesT P 9 t1 = some [t1]) (hC1 : P.cellsOf t1 = 1)
    (h : ∃ m y, DataW.trod enc P w base (fun _ => true) held m t [u] = some y) :
    ∃ (A : Option Addr) (n c : Nat) (rss : List (List ByteArray)) (i : LI), u = .slice A n c ∧ n ≤ c ∧ c ≤ maxLen ∧ rss.length = n ∧ NestIn w A n [.strs rss] i := by
  obtain ⟨A, n, c, rfl, h1, h2, h3⟩ := open_slcell ht hl1 hC1 (by simp) h
  by_cases hn : 0 < n
  · obtain ⟨b, o, rfl, hb, hi⟩ := h3 hn
    obtain ⟨l, tg, g1, g2, g3, g4⟩ := nest_of ([] : List ByteArray) List.length (fun ss => .col (.strs ss)) (fun _ => True) (w := w) n (fun j => w.cell? ⟨b, o + j, none⟩) fun j hj => by
      obtain ⟨u, f1, f2⟩ := hi j hj 0 t1 rfl
      obtain ⟨ss, A', c', rfl, e1, e2, e3⟩ := open_strcell ht1 he hl hC f2
      exact ⟨ss, A', c', by simpa using f1, e1, trivial, e3⟩
    obtain ⟨i, hin⟩ := nest_in (w := w) (A := some ⟨b, o, none⟩) (n := n) (cs := [.strs l]) (tg := tg) (fun nc hnc => by simp at hnc; subst hnc; exact g1) (by simp) fun _ => ⟨b, o, rfl, hb, g3, fun c nc j hcs hj => by
      match c, hcs with
      | 0, hcs =>
        simp at hcs
        subst hcs
        obtain ⟨x, f1, f2⟩ := g4 j hj
        exact ⟨x, by simpa using f1, f2⟩
      | c + 1, hcs => simp at hcs⟩
    exact ⟨_, n, c, l, i, rfl, h1, h2, g1, hin⟩
  · have h0 : n = 0 := by omega
    subst h0
    obtain ⟨i, hin⟩ := nest_in (w := w) (A := A) (n := 0) (cs := [.strs []]) (tg := 0) (fun nc hnc => by simp at hnc; subst hnc; rfl) (by simp) fun h => absurd h (by omega)
    exact ⟨A, 0, c, [], i, rfl, h1, h2, rfl, hin⟩
theorem wf_i8 {z : Int} (h : (Lit.int .i8 z).wf = true) : -128 ≤ z ∧ z ≤ 127 := by
  simp only [Lit.wf, Bool.and_eq_true, decide_eq_true_eq] at h
  have e1 : IntKind.min .i8 = -128 := by decide
  have e2 : IntKind.max .i8 = 127 := by decide
  rw [e1, e2] at h
  exact h
theorem rl_any (A B : Option Addr) (c k : Nat) (ss : List ByteArray) (rss : List (List ByteArray)) (i : LI) (z : Int) {W : World} (hz : -128 ≤ z ∧ z ≤ 127) (hnc : ss.length ≤ c) (hpk : rss.length ≤ k)
    (hA : 0 < ss.length → ∃ b o, A = some ⟨b, o, none⟩ ∧ (∃ cur e fz, W.heap[b]? = some (.cells cur e fz)) ∧ ∀ (ρ' : Rho) (nx' : Nat), (Cont.col (.strs ss)).rel ρ' nx' (fun t => W.cell? ⟨b, o + t, none⟩)) (hin : NestIn W B rss.length [.strs rss] i) :
    Gives 3 #[.agg #[.slice A ss.length c, .slice B rss.length k], .int .i8 z] W (.bool true) := by
  obtain ⟨i0, h0, h1⟩ : ∃ i0 : LI, (0 < ss.length → A = some ⟨i0.b, i0.o, none⟩) ∧ ∀ (ρ : Rho) (nx : Nat), (⟨false, false, .col (.strs ss)⟩ : ABlk).ok ρ nx i0 W := by
    by_cases hn : 0 < ss.length
    · obtain ⟨b, o, e, ⟨cur, e1, fz, h1⟩, h2⟩ := hA hn
      exact ⟨⟨b, o, 0, 0⟩, fun _ => e, fun ρ nx => ⟨.inl (Array.getElem?_eq_some_iff.1 h1).1, h2 ρ nx, (fun h => by cases h), (fun h => by cases h), fun q hq => by cases hq⟩⟩
    · have hs : ss = [] := List.eq_nil_of_length_eq_zero (by omega)
      subst hs
      exact ⟨⟨0, 0, 0, 0⟩, fun h => absurd h hn, fun ρ nx => ABlk.ok.any ⟨rfl, rfl, fun q hq => (by cases hq), fun r c a ha => by cases c <;> simp only [Cont.at] at ha <;> cases ha⟩ W⟩
  have hm : MRel (fun l => if l = 0 then i0 else i) (M0 ss rss) W := mrel_two (h1 _ _) (hin.ok _ _) rfl rfl
  have a0 : AV.rel (fun l => if l = 0 then i0 else i) 2 (.sl false 0 1 0 1 ss.length (some c)) (.slice A ss.length c) := by
    simp only [AV.rel]
    refine ⟨by omega, A, c, rfl, hnc, fun hn => ?_, (fun h => by cases h), rfl⟩
    rw [h0 hn]; simp
  have a1 : AV.rel (fun l => if l = 0 then i0 else i) 2 (.sl false 1 1 0 1 rss.length (some k)) (.slice B rss.length k) := NestIn.arg (l := 1) hin (by omega) hpk 1 1
  exact gives_true (m := M0 ss rss) (args := [.agg [.sl false 0 1 0 1 ss.length (some c), .sl false 1 1 0 1 rss.length (some k)], .val (.int .i8 z)]) (xs := [.agg #[.slice A ss.length c, .slice B rss.length k], .int .i8 z]) (c := bodyOf Tryd.f3) Tryd.func3 rfl
    (la_all ss rss false false (some c) (some k) z hz) rfl hm (by
      simp only [AV.rels, AV.rel] at a0 a1 ⊢
      exact ⟨_, _, rfl, ⟨_, rfl, _, _, rfl, a0, _, _, rfl, a1, rfl⟩, _, _, rfl, rfl, rfl⟩)
set_option maxRecDepth 100000 in
theorem reportLines_lifted (os : Os) (started : os.Started) (H : Type) (enc : TypeId × Value → H) :
    ReturnsInHanded {} Tryd.checked os 3 .any (fun w args => (Rows.reportLinesSpec.pre enc Tryd.prog Tryd.f3 [] false w args ∧ laidMetH Tryd.prog laidD w) ∧ sizedMet enc Tryd.prog Tryd.f3 (OpenSpec.ofChange Rows.reportLinesSpec) false w args)
      (Rows.reportLinesSpec.post enc Tryd.prog Tryd.f3 false true false false) := by
  refine returns_both (C := Tryd.checked) (X := fun w _ => laidMetH Tryd.prog laidD w) (fun _ _ _ hh h => h.of_heap hh) Tryd.own started (by kernel_rfl) Tryd.func3
    (ChangeSpec.witness_shaped (enc := enc) (C := Tryd.checked) (os := os) (X := fun w _ => laidMetH Tryd.prog laidD w) false (World.laidAll Tryd.prog os laidD) #[.agg #[.slice none 0 0, .slice none 0 0], .int .i8 0] 8 (World.laidAll_os _ _ _)
      (World.shaped_of_ZipB (by kernel_rfl) (by kernel_rfl)) (by kernel_rfl) (by kernel_rfl) (by kernel_rfl)
      (by rw [MakeChecks.laidMetH_plain _ _ _ (by kernel_rfl)]; exact laidMet_laidAll _ (by kernel_rfl) (by kernel_rfl))) ?_
  intro W base args ds gs before hval0 hW hL hsh
  have hval : ∀ (j : Nat) t v, Tryd.f3.params[j]? = some t → args[j]? = some v → Value.okWide Tryd.prog W .any base t v := hval0
  have hW' := hW
  obtain ⟨p, q, hA0, hV, rfl, hfz, hnd⟩ := hW
  have hA : DataW.TrodAll enc Tryd.prog W 0 (fun _ => true) true Tryd.f3.params.toList args.toList ds p := hA0
  rw [Tryd.params3] at hA hval
  obtain ⟨v0, v1, d0, d1, p0, p1, rfl, rfl, rfl, h0, h1⟩ := trodAll_two hA
  obtain ⟨l, rfl, hl, hf⟩ := open_struct Tryd.underlying25 (by kernel_rfl) (by kernel_rfl) (hval 0 _ v0 rfl rfl) h0
  obtain ⟨u0, u1, rfl⟩ := list2 hl
  obtain ⟨ss, A, c, rfl, q1, q2, q3⟩ := open_strcell Tryd.underlying22 Tryd.underlying9 (by kernel_rfl) (by kernel_rfl) (hf 0 _ u0 rfl rfl)
  obtain ⟨B, n, k, rss, i, rfl, r1, r2, rfl, r4⟩ := open_strscell Tryd.underlying23 Tryd.underlying22 Tryd.underlying9 (by kernel_rfl) (by kernel_rfl) (by kernel_rfl) (by kernel_rfl) (hf 1 _ u1 rfl rfl)
  obtain ⟨z, rfl, rfl, rfl, wz⟩ := open_int Tryd.underlying26 (hval 1 _ v1 rfl rfl) h1
  refine Gives.use (rl_any A B c k ss rss i z (wf_i8 wz) q1 r1 q3 r4) fun W' hb => ?_
  exact ⟨_, rfl, law_post Tryd.laidOut (by kernel_rfl) (by kernel_rfl) Tryd.underlying4 rfl hW' ⟨rfl, rfl, rfl⟩ hb⟩
theorem reportLines_holds : Rows.ReportLinesSaid :=
  OpenClaim.holds_of_wide 3 Tryd.f3 rfl rfl rfl rfl rfl rfl rfl ⟨rfl, rfl, rfl, rfl, rfl⟩ rfl rfl rfl rfl rfl (by kernel_rfl) Tryd.func3 (by kernel_rfl)
    (of_decide_eq_true (by kernel_rfl)) (by unfold Func.isWrapper; first | (rw [if_pos (by decide +kernel)]; kernel_rfl) | (rw [if_neg (by decide +kernel)]; exact ⟨rfl, rfl⟩))
    (fun os started H enc _ => reportLines_lifted os started H enc)
theorem reportLines_card : Rows.ReportLinesCardSaid :=
  Claim7.holds_tied_plain_at .later [] [.data, .pinned] true (true, "4b5b1769a70bd14dc7c229c7d4d96857f2e10a158dff3a92d561d051d4ab731c") false reportLines_holds (fun _ h => by cases h) (by kernel_rfl) (fun _ h => by cases h) reportLines_row_tie rfl ⟨rfl, rfl⟩ (by kernel_rfl) rfl
    (fun f fn hf hfn => by
      obtain rfl : f = 3 := Option.some.inj ((show Tryd.prog.funcNamed "haymow/haymowlaw31.ReportLines" = some 3 by kernel_rfl).symm.trans hf) |>.symm
      obtain rfl : fn = Tryd.f3 := (Option.some.inj (Tryd.func3.symm.trans hfn)).symm
      exact ⟨by kernel_rfl, fun j t ht => by
        rw [Tryd.params3] at ht
        have hm : t ∈ [25, 26] := by simpa using Array.mem_of_getElem? ht
        have hall : ([25, 26].all fun u => !Tryd.prog.wantsStandIn u) = true := by kernel_rfl
        exact (show Tryd.prog.wantsStandIn t = false by simpa using List.all_eq_true.1 hall t hm)⟩)
    (by kernel_rfl)
end Go.Proofs.YtbjealobiblabaaDoor
