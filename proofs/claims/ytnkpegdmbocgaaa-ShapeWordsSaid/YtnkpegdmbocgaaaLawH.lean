/-
  The statements of layer 13 (shape), proved: ShapeWords.
-/
import Derived.Test.YtnkpegdmbocgaaaInRow
import Derived.Test.YtnkpegdmbocgaaaSB
namespace Go.Proofs.Ytnkpegdmbocgaaa
open Go Go.ChangeShapes Go.WideShapes Go.ChangeAt Go.RowKit Go.Deep
def wdC : List Cut := [(2, [3, 11, 12, 13, 14, 17, 20], [0, 1], 2)]
def wdTm (p' r' : Int) (i j k : AV) : List AV := [.unk, .unk, .unk, .ptr 0 1 0 0] ++ List.replicate 7 .unk ++ [vi p', vi r', .ptr 1 1 0 0, i, .unk, .unk, j, .unk, .unk, k] ++ List.replicate 140 .unk
def wdM (p r : Int) (zs : List Int) : MS := ⟨[(0, some ⟨true, false, .cells [vi p, vi r]⟩), (1, some ⟨true, false, .col (.ints .i64 zs)⟩)], 2⟩
def retB (b : Bool) : Option Fin_ := some (Fin_.ret (vb b) ⟨[], 99⟩ true)
def wdIn3 (h : List Item) (p r p' r' : Int) : Option Fin_ := bif decide (300 < IntKind.i64.wrap (p' + r')) then retB true else some (Fin_.head h (wdTm p' r' (vi 0) .unk .unk) (wdM p r (List.replicate 302 0)) true)
def wdIn2 (h : List Item) (p r b p' r' : Int) : Option Fin_ :=
  bif bif decide (b < 0) then true else decide (r' ≤ b) then
    bif bif shape_Cell_0 p r b != 0 then true else shape_Cell_1 p r b != 32 then retB false else wdIn3 h p r p' r'
  else bif bif shape_Cell_0 p r b != IntKind.i64.wrap (IntKind.i64.wrap (p' + b) + 1) then true else shape_Cell_1 p r b != 0 then retB false else wdIn3 h p r p' r'
def wdIn (h : List Item) (p r a b p' r' : Int) : Option Fin_ :=
  bif bif decide (a < 0) then true else decide (p' ≤ a) then
    bif bif shape_Slot_0 p r a != 0 then true else shape_Slot_1 p r a != 32 then retB false else wdIn2 h p r b p' r'
  else bif bif shape_Slot_0 p r a != IntKind.i64.wrap (a + 1) then true else shape_Slot_1 p r a != 0 then retB false else wdIn2 h p r b p' r'
theorem wd_in (p r a b : Int) : F_ Try.prog L_haymowlaw13_awake Try.f9 wdC [] 99 [.agg [vi p, vi r], vi a, vi b] noMem =
    bif haymowref13_Right_0 p r then wdIn (hd Try.f9 0) p r a b p r else wdIn (hd Try.f9 0) p r a b 0 0 := by kernel_rfl
def inW (x : Int) (zs : List Int) (c : Bool) : Bool := bif decide (0 ≤ x) then bif decide (x.toNat < 302) then bif decide (x.toNat < zs.length) then c else false else false else false
def wdBad (x y p' r' : Int) : Bool := bif bif y != 0 then true else decide (x < 1) then true else decide (IntKind.i64.wrap (p' + r') < x)
def wdUp (x : Int) (zs : List Int) : List Int := zs.set x.toNat (IntKind.i64.wrap (zs.getD x.toNat 0 + 1))
theorem wd_one (p r i p' r' : Int) (zs : List Int) : H_ Try.prog L_haymowlaw13_awake Try.f9 wdC [] 99 (hd Try.f9 0) (wdTm p' r' (vi i) .unk .unk) (wdM p r zs) =
    bif decide (i < p') then
      bif wdBad (shape_Slot_0 p r i) (shape_Slot_1 p r i) p' r' then retB false
      else some (Fin_.head (hd Try.f9 0) (wdTm p' r' (vi (IntKind.i64.wrap (i + 1))) .unk .unk) (wdM p r (wdUp (shape_Slot_0 p r i) zs)) (inW (shape_Slot_0 p r i) zs (inW (shape_Slot_0 p r i) zs true)))
    else some (Fin_.head (hd Try.f9 1) (wdTm p' r' (vi i) (vi 0) .unk) (wdM p r zs) true) := by kernel_rfl
theorem wd_two (p r i j p' r' : Int) (zs : List Int) : H_ Try.prog L_haymowlaw13_awake Try.f9 wdC [] 99 (hd Try.f9 1) (wdTm p' r' (vi i) (vi j) .unk) (wdM p r zs) =
    bif decide (j < r') then
      bif wdBad (shape_Cell_0 p r j) (shape_Cell_1 p r j) p' r' then retB false
      else some (Fin_.head (hd Try.f9 1) (wdTm p' r' (vi i) (vi (IntKind.i64.wrap (j + 1))) .unk) (wdM p r (wdUp (shape_Cell_0 p r j) zs)) (inW (shape_Cell_0 p r j) zs (inW (shape_Cell_0 p r j) zs true)))
    else some (Fin_.head (hd Try.f9 2) (wdTm p' r' (vi i) (vi j) (vi 1)) (wdM p r zs) true) := by kernel_rfl
theorem wd_three (p r i j k p' r' : Int) (zs : List Int) : H_ Try.prog L_haymowlaw13_awake Try.f9 wdC [] 99 (hd Try.f9 2) (wdTm p' r' (vi i) (vi j) (vi k)) (wdM p r zs) =
    bif decide (k ≤ IntKind.i64.wrap (p' + r')) then
      bif zs.getD k.toNat 0 != 1 then some (Fin_.ret (vb false) ⟨[], 99⟩ (inW k zs true))
      else some (Fin_.head (hd Try.f9 2) (wdTm p' r' (vi i) (vi j) (vi (IntKind.i64.wrap (k + 1)))) (wdM p r zs) (inW k zs true))
    else some (Fin_.ret (vb (zs.getD 0 0 == 0)) ⟨[], 99⟩ (bif decide (0 < zs.length) then true else false)) := by kernel_rfl
/-- The places 1 .. n are met once. -/
def ones (n : Nat) : List Int := (List.range 302).map fun k => if 1 ≤ k ∧ k ≤ n then 1 else 0
theorem ones_len (n : Nat) : (ones n).length = 302 := by simp [ones]
theorem ones_at (n k : Nat) (h : k < 302) : (ones n).getD k 0 = if 1 ≤ k ∧ k ≤ n then 1 else 0 := by simp [ones, List.getD_eq_getElem?_getD, h]
theorem ones_up (n : Nat) (h : n < 301) : wdUp ((n + 1 : Nat) : Int) (ones n) = ones (n + 1) := by
  unfold wdUp
  rw [Int.toNat_natCast, ones_at _ _ (by omega), if_neg (by omega), show IntKind.i64.wrap (0 + 1) = 1 by decide]
  refine List.ext_getElem (by simp [ones]) fun k h1 h2 => ?_
  rw [List.getElem_set]
  simp only [ones, List.getElem_map, List.getElem_range]
  by_cases e : n + 1 = k
  · rw [if_pos e, if_pos (by omega)]
  · rw [if_neg e]
    by_cases c : 1 ≤ k ∧ k ≤ n
    · rw [if_pos c, if_pos (by omega)]
    · rw [if_neg c, if_neg (by omega)]
theorem ones_zero : List.replicate 302 0 = ones 0 := by kernel_rfl
theorem inW_ok {x : Nat} {n : Nat} {c : Bool} (h : x < 302) (hc : c = true) : inW (x : Int) (ones n) c = true := by
  unfold inW
  rw [Int.toNat_natCast, ones_len, decide_eq_true (show (0 : Int) ≤ x by omega), decide_eq_true h, hc]
  rfl
structure Wd (p r p' r' : Int) : Prop where
  p1 : 0 ≤ p'
  r1 : 0 ≤ r'
  s : p' + r' ≤ 300
  slot : ∀ i, 0 ≤ i → i < p' → shape_Slot_0 p r i = i + 1 ∧ shape_Slot_1 p r i = 0
  cell : ∀ i, 0 ≤ i → i < r' → shape_Cell_0 p r i = p' + i + 1 ∧ shape_Cell_1 p r i = 0
section
variable {p r p' r' : Int}
theorem wd_last (h : Wd p r p' r') (i j : Int) : ∀ (d k : Nat), (k : Int) + d = p' + r' + 1 → 1 ≤ k → Gives_ Try.prog Try.f9 0 ⟨hd Try.f9 2, wdTm p' r' (vi i) (vi j) (vi k), wdM p r (ones (p' + r').toNat)⟩ (vb true) ⟨[], 99⟩
  | 0, k, hk, h1 => by
    have := h.s; have := h.p1; have := h.r1
    refine H_ret (cuts := wdC) (ns := []) (top := 99) hE_haymowlaw13_awake mixed rfl ?_
    rw [wd_three, wr (p' + r') (by omega) (by omega), decide_eq_false (by omega), ones_at _ _ (by omega), if_neg (by omega), ones_len]
    rfl
  | d + 1, k, hk, h1 => by
    have := h.s; have := h.p1; have := h.r1
    refine Goes.gives (H_head (f := Try.f9) (cuts := wdC) (ns := []) (top := 99) hE_haymowlaw13_awake mixed rfl ?_) (wd_last h i j d (k + 1) (by omega) (by omega))
    rw [wd_three, wr (p' + r') (by omega) (by omega), decide_eq_true (by omega), Int.toNat_natCast, ones_at _ _ (by omega), if_pos (by omega), inW_ok (by omega) rfl, show IntKind.i64.wrap ((k : Int) + 1) = ((k + 1 : Nat) : Int) by rw [wr _ (by omega) (by omega)]; omega]
    rfl
theorem wd_cells (h : Wd p r p' r') (i : Int) : ∀ (d j : Nat), (j : Int) + d = r' → Gives_ Try.prog Try.f9 0 ⟨hd Try.f9 1, wdTm p' r' (vi i) (vi j) .unk, wdM p r (ones (p'.toNat + j))⟩ (vb true) ⟨[], 99⟩
  | 0, j, hj => by
    have := h.s; have := h.p1; have := h.r1
    refine Goes.gives (H_head (f := Try.f9) (todo' := hd Try.f9 2) (cuts := wdC) (ns := []) (top := 99) hE_haymowlaw13_awake mixed rfl ?_) (wd_last h i j (p' + r').toNat 1 (by omega) (by omega))
    rw [wd_two, decide_eq_false (by omega), show p'.toNat + j = (p' + r').toNat by omega]
    rfl
  | d + 1, j, hj => by
    have := h.s; have := h.p1; have := h.r1
    obtain ⟨e0, e1⟩ := h.cell j (by omega) (by omega)
    have e2 : p' + (j : Int) + 1 = ((p'.toNat + j + 1 : Nat) : Int) := by omega
    refine Goes.gives (H_head (f := Try.f9) (cuts := wdC) (ns := []) (top := 99) hE_haymowlaw13_awake mixed rfl ?_) (wd_cells h i d (j + 1) (by omega))
    have hb : wdBad ((p'.toNat + j + 1 : Nat) : Int) 0 p' r' = false := by
      unfold wdBad
      rw [wr (p' + r') (by omega) (by omega), decide_eq_false (show ¬ (((p'.toNat + j + 1 : Nat) : Int) < 1) by omega), decide_eq_false (show ¬ (p' + r' < ((p'.toNat + j + 1 : Nat) : Int)) by omega)]
      rfl
    rw [wd_two, decide_eq_true (by omega), e0, e1, e2, hb, ones_up _ (by omega), inW_ok (by omega) (inW_ok (by omega) rfl), show IntKind.i64.wrap ((j : Int) + 1) = ((j + 1 : Nat) : Int) by rw [wr _ (by omega) (by omega)]; omega]
    rfl
theorem wd_slots (h : Wd p r p' r') : ∀ (d i : Nat), (i : Int) + d = p' → Gives_ Try.prog Try.f9 0 ⟨hd Try.f9 0, wdTm p' r' (vi i) .unk .unk, wdM p r (ones i)⟩ (vb true) ⟨[], 99⟩
  | 0, i, hi => by
    have := h.s; have := h.p1; have := h.r1
    refine Goes.gives (H_head (f := Try.f9) (todo' := hd Try.f9 1) (cuts := wdC) (ns := []) (top := 99) hE_haymowlaw13_awake mixed rfl ?_) (wd_cells h i r'.toNat 0 (by omega))
    rw [wd_one, decide_eq_false (by omega), show p'.toNat + 0 = i by omega]
    rfl
  | d + 1, i, hi => by
    have := h.s; have := h.p1; have := h.r1
    obtain ⟨e0, e1⟩ := h.slot i (by omega) (by omega)
    have e2 : (i : Int) + 1 = ((i + 1 : Nat) : Int) := by omega
    refine Goes.gives (H_head (f := Try.f9) (cuts := wdC) (ns := []) (top := 99) hE_haymowlaw13_awake mixed rfl ?_) (wd_slots h d (i + 1) (by omega))
    have hb : wdBad ((i + 1 : Nat) : Int) 0 p' r' = false := by
      unfold wdBad
      rw [wr (p' + r') (by omega) (by omega), decide_eq_false (show ¬ (((i + 1 : Nat) : Int) < 1) by omega), decide_eq_false (show ¬ (p' + r' < ((i + 1 : Nat) : Int)) by omega)]
      rfl
    rw [wd_one, decide_eq_true (by omega), e0, e1, e2, hb, ones_up _ (by omega), inW_ok (by omega) (inW_ok (by omega) rfl), wr _ (by omega) (by omega)]
    rfl
end
theorem wd_gives (p r a b p' r' : Int) (hp : haymowref13_Right_0 p r = true ∧ p' = p ∧ r' = r ∨ haymowref13_Right_0 p r = false ∧ p' = 0 ∧ r' = 0) : Gives_ Try.prog Try.f9 0 (enterA Try.f9 (bodyOf Try.f9) [.agg [vi p, vi r], vi a, vi b] noMem) (vb true) ⟨[], 99⟩ := by
  have hin : F_ Try.prog L_haymowlaw13_awake Try.f9 wdC [] 99 [.agg [vi p, vi r], vi a, vi b] noMem = wdIn (hd Try.f9 0) p r a b p' r' := by
    rw [wd_in]
    rcases hp with ⟨h, rfl, rfl⟩ | ⟨h, rfl, rfl⟩ <;> rw [h] <;> rfl
  have hR : haymowref13_Right_0 p r = true → (0 ≤ p ∧ p < 4096) ∧ 0 ≤ r ∧ r < 4096 := fun h => by
    unfold haymowref13_Right_0 at h
    simp [Bool.cond_eq_ite] at h
    omega
  have hpr : 0 ≤ p' ∧ p' < 4096 ∧ 0 ≤ r' ∧ r' < 4096 := by
    rcases hp with ⟨h, rfl, rfl⟩ | ⟨h, rfl, rfl⟩
    · have := hR h; omega
    · omega
  have hslot : ∀ i, shape_Slot_0 p r i = (if i < 0 ∨ p' ≤ i then 0 else i + 1) ∧ shape_Slot_1 p r i = (if i < 0 ∨ p' ≤ i then 32 else 0) := fun i => by
    unfold shape_Slot_0 shape_Slot_1
    rw [right13]
    rcases hp with ⟨h, rfl, rfl⟩ | ⟨h, rfl, rfl⟩ <;> rw [h]
    · by_cases c : i < 0 ∨ p' ≤ i
      · rcases c with c | c <;> simp [c]
      · rw [wr (1 + i) (by omega) (by omega), if_neg c, if_neg c, decide_eq_false (show ¬ i < 0 by omega), decide_eq_false (show ¬ p' ≤ i by omega)]
        simp only [Bool.not_true, cond_false, and_true]
        omega
    · have c : i < 0 ∨ (0 : Int) ≤ i := by omega
      rw [if_pos c, if_pos c]
      simp
  have hcell : ∀ i, shape_Cell_0 p r i = (if i < 0 ∨ r' ≤ i then 0 else p' + i + 1) ∧ shape_Cell_1 p r i = (if i < 0 ∨ r' ≤ i then 32 else 0) := fun i => by
    unfold shape_Cell_0 shape_Cell_1
    rw [right13]
    rcases hp with ⟨h, rfl, rfl⟩ | ⟨h, rfl, rfl⟩ <;> rw [h]
    · by_cases c : i < 0 ∨ r' ≤ i
      · rcases c with c | c <;> simp [c]
      · rw [wr (1 + p') (by omega) (by omega), wr (1 + p' + i) (by omega) (by omega), if_neg c, if_neg c, decide_eq_false (show ¬ i < 0 by omega), decide_eq_false (show ¬ r' ≤ i by omega)]
        simp only [Bool.not_true, cond_false, and_true]
        omega
    · have c : i < 0 ∨ (0 : Int) ≤ i := by omega
      rw [if_pos c, if_pos c]
      simp
  have h3 : F_ Try.prog L_haymowlaw13_awake Try.f9 wdC [] 99 [.agg [vi p, vi r], vi a, vi b] noMem = wdIn3 (hd Try.f9 0) p r p' r' := by
    rw [hin]
    unfold wdIn
    have h2 : wdIn2 (hd Try.f9 0) p r b p' r' = wdIn3 (hd Try.f9 0) p r p' r' := by
      unfold wdIn2
      rw [(hcell b).1, (hcell b).2]
      by_cases c : b < 0 ∨ r' ≤ b
      · rcases c with c | c <;> simp [c]
      · rw [wr (p' + b) (by omega) (by omega), wr (p' + b + 1) (by omega) (by omega), if_neg c, if_neg c, decide_eq_false (show ¬ b < 0 by omega), decide_eq_false (show ¬ r' ≤ b by omega)]
        simp
    rw [(hslot a).1, (hslot a).2, h2]
    by_cases c : a < 0 ∨ p' ≤ a
    · rcases c with c | c <;> simp [c]
    · rw [wr (a + 1) (by omega) (by omega), if_neg c, if_neg c, decide_eq_false (show ¬ a < 0 by omega), decide_eq_false (show ¬ p' ≤ a by omega)]
      simp
  by_cases hs : 300 < p' + r'
  · refine F_ret hE_haymowlaw13_awake mixed (cuts := wdC) (ns := []) (top := 99) rfl rfl ?_
    rw [h3, wdIn3, wr (p' + r') (by omega) (by omega), decide_eq_true hs]
    rfl
  · refine Goes.gives (F_head (f := Try.f9) (c := bodyOf Try.f9) (cuts := wdC) (ns := []) (top := 99) (todo := hd Try.f9 0) hE_haymowlaw13_awake mixed rfl rfl (by
      rw [h3, wdIn3, wr (p' + r') (by omega) (by omega), decide_eq_false hs, ones_zero]
      rfl)) (wd_slots ⟨hpr.1, hpr.2.2.1, by omega, fun i h0 h1 => ?_, fun i h0 h1 => ?_⟩ p'.toNat 0 (by omega))
    · rw [(hslot i).1, (hslot i).2, if_neg (by omega), if_neg (by omega)]
      exact ⟨rfl, rfl⟩
    · rw [(hcell i).1, (hcell i).2, if_neg (by omega), if_neg (by omega)]
      exact ⟨rfl, rfl⟩
theorem words_all (p r a b : Int) (w : World) : Gives 9 #[.agg #[.int .i64 p, .int .i64 r], .int .i64 a, .int .i64 b] w (.bool true) := by
  have hx : AV.rels (fun _ => ⟨0, 0, 0⟩) 0 [.agg [vi p, vi r], vi a, vi b] [.agg #[.int .i64 p, .int .i64 r], .int .i64 a, .int .i64 b] := by
    simp only [AV.rels, AV.rel]
    exact ⟨_, _, rfl, ⟨_, rfl, _, _, rfl, rfl, _, _, rfl, rfl, rfl⟩, _, _, rfl, rfl, _, _, rfl, rfl, rfl⟩
  refine gives_true (c := bodyOf Try.f9) (m := noMem) (m' := ⟨[], 99⟩) Try.func9 rfl ?_ rfl mrel_none hx
  cases h : haymowref13_Right_0 p r with
  | true => exact wd_gives p r a b p r (.inl ⟨h, rfl, rfl⟩)
  | false => exact wd_gives p r a b 0 0 (.inr ⟨h, rfl, rfl⟩)

set_option maxRecDepth 100000 in
theorem words_lifted (os : Os) (started : os.Started) (H : Type) (enc : TypeId × Value → H) :
    ReturnsInHanded {} Try.checked os 9 .any (Rows.shapeWordsSpec.pre6 enc Try.prog Try.f9 Rows.shapeWordsRow.domain false) (Rows.shapeWordsSpec.post enc Try.prog Try.f9 false true false false) := by
  refine returnsInHanded_of_change (C := Try.checked) Try.own started (by kernel_rfl) Try.func9
    (ChangeSpec.witness6 (enc := enc) (C := Try.checked) false ⟨#[], #[.agg #[.int .i64 0, .int .i64 0], .int .i64 0, .int .i64 0], []⟩ 8 (by kernel_rfl) (by kernel_rfl) (by kernel_rfl) (by kernel_rfl)) ?_
  intro W base args ds gs before hval0 hW hcnd hsized
  have hval : ∀ (j : Nat) t v, Try.f9.params[j]? = some t → args[j]? = some v → Value.okWide Try.prog W .any base t v := hval0
  have hW' := hW
  obtain ⟨p, q, hA0, hV, rfl, hfz, hnd⟩ := hW
  have hA : DataW.TrodAll enc Try.prog W 0 (fun _ => true) true Try.f9.params.toList args.toList ds p := hA0
  rw [Try.params9] at hA hval
  obtain ⟨v0, v1, v2, d0, d1, d2, p0, p1, p2, rfl, rfl, rfl, h0, h1, h2⟩ := trodAll_three hA
  obtain ⟨l0_, rfl, hl0_, hg0_⟩ := open_struct Try.underlying30 (by kernel_rfl) (by kernel_rfl) (hval 0 _ v0 rfl rfl) h0
  obtain ⟨c0_0, c0_1, rfl⟩ := list2 hl0_
  obtain ⟨p, rfl, wp⟩ := field_int Try.underlying3 (hg0_ 0 _ _ rfl rfl)
  obtain ⟨r, rfl, wr⟩ := field_int Try.underlying3 (hg0_ 1 _ _ rfl rfl)
  obtain ⟨a, rfl, rfl, rfl, wa⟩ := open_int Try.underlying3 (hval 1 _ v1 rfl rfl) h1
  obtain ⟨b, rfl, rfl, rfl, wb⟩ := open_int Try.underlying3 (hval 2 _ v2 rfl rfl) h2
  refine Gives.use (words_all p r a b W) fun W' hb => ?_
  exact ⟨_, rfl, law_post Try.laidOut (by kernel_rfl) (by kernel_rfl) Try.underlying4 rfl hW' ⟨rfl, rfl, rfl⟩ hb⟩
theorem words_holds : Rows.ShapeWordsSaid :=
  OpenClaim.holds_of_wide 9 Try.f9 rfl rfl rfl rfl rfl rfl rfl ⟨rfl, rfl, rfl, rfl, rfl⟩ rfl rfl rfl rfl rfl (by kernel_rfl) Try.func9 (by kernel_rfl)
    (of_decide_eq_true (by kernel_rfl)) (by unfold Func.isWrapper; first | (rw [if_pos (by decide +kernel)]; kernel_rfl) | (rw [if_neg (by decide +kernel)]; exact ⟨rfl, rfl⟩))
    (fun os started H enc _ => words_lifted os started H enc)
end Go.Proofs.Ytnkpegdmbocgaaa
