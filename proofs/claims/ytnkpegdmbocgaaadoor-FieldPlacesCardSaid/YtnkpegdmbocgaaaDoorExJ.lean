/-
  copy: from what is read into what may be written.
-/
import Derived.Test.YtnkpegdmbocgaaaDoorExE
namespace Go.Proofs.YtnkpegdmbocgaaaDoor
open Go Go.RowKit
/-- The first cells of a slice. -/
def firstA (m : MS) (z k : Nat) (b : AV) : Option (List AV × List Bool) := match b with
  | .sl _ l w r s _ _ => match Nat.beq z (s * w) with
    | true => match look m.bl l with
      | some bk => match Nat.beq bk.cont.width w with
        | true => loadN bk.cont w r 0 (k * z) 0
        | false => none
      | none => none
    | false => none
  | _ => none
def slLen : AV → Option Nat
  | .sl _ _ _ _ _ n _ => some n
  | .val (.slice none 0 0) => some 0
  | _ => none
def minN (a b : Nat) : Nat := match Nat.ble a b with
  | true => a
  | false => b
def copyA (P : Program) (m : MS) (t : TypeId) (a b : AV) : Option (AV × MS × List Bool) := match P.underlying t with
  | some (.slice e) => match P.info? e with
    | some i => match slLen a, slLen b with
      | some n, some n' => match Nat.beq (minN n' n) 0 with
        | true => some (.val (.int .i64 0), m, [])
        | false => match a with
          | .sl _ l w r s _ _ => match Nat.beq i.size (s * w) with
            | true => match firstA m i.size (minN n' n) b with
              | some (cs, bs) => match look m.bl l with
                | some bk => match bk.wr with
                  | true => match Nat.beq bk.cont.width w with
                    | true => match setN bk.cont w r 0 cs 0 with
                      | some (k, bs') => some (.val (.int .i64 ((minN n' n : Nat) : Int)), ⟨upd m.bl l (some ⟨true, bk.op, k⟩), m.nx⟩, bs ++ bs')
                      | none => none
                    | false => none
                  | false => none
                | none => none
              | none => none
            | false => none
          | _ => none
      | _, _ => none
    | none => none
  | _ => none
/-- Nothing is put behind: the same slice. -/
def appendZ (P : Program) (t : TypeId) (a b : AV) : Option AV := match slLen b with
  | some n => match Nat.beq n 0 with
    | true => match P.underlying t with
      | some (.slice e) => match P.info? e with
        | some _ => match slLen a with
          | some _ => some a
          | none => none
        | none => none
      | _ => none
    | false => none
  | none => none
theorem minN_eq (a b : Nat) : minN a b = Nat.min a b := by
  unfold minN
  split
  · rename_i h; exact (Nat.min_eq_left (Nat.le_of_ble_eq_true h)).symm
  · rename_i h
    have : ¬ a ≤ b := fun hle => by rw [Nat.ble_eq_true_of_le hle] at h; cases h
    exact (Nat.min_eq_right (by omega)).symm
section
variable {P : Program} {ρ : Rho} {m : MS} {w : World}
theorem slLen_full {a : AV} {n nx : Nat} {x : Value} (h : slLen a = some n) (hx : AV.rel ρ nx a x) : ∃ A c, x = .slice A n c ∧ n ≤ c ∧ (∀ w, (Builtin.lenOf x).run P w = .ok n w) := by
  unfold slLen at h
  split at h
  · cases h
    simp only [AV.rel] at hx
    obtain ⟨_, A, c, rfl, hc, _⟩ := hx
    exact ⟨A, c, rfl, hc, fun w => rfl⟩
  · cases h
    simp only [AV.rel] at hx
    subst hx
    exact ⟨none, 0, rfl, Nat.le_refl _, fun w => rfl⟩
  · cases h
theorem slLen_ok {a : AV} {n nx : Nat} {x : Value} (h : slLen a = some n) (hx : AV.rel ρ nx a x) : ∃ A c, x = .slice A n c ∧ ∀ w, (Builtin.lenOf x).run P w = .ok n w := by
  unfold slLen at h
  split at h
  · cases h
    simp only [AV.rel] at hx
    obtain ⟨_, A, c, rfl, _⟩ := hx
    exact ⟨A, c, rfl, fun w => rfl⟩
  · cases h
    simp only [AV.rel] at hx
    subst hx
    exact ⟨none, 0, rfl, fun w => rfl⟩
  · cases h
theorem firstA_ok {z k n : Nat} {b : AV} {cs : List AV} {bs : List Bool} {y : Value} (h : firstA m z k b = some (cs, bs)) (hn : slLen b = some n) (h0 : 0 < n) (hm : MRel ρ m w) (hy : AV.rel ρ m.nx b y) (hbs : bs.all id = true) :
    ∃ xs : List Value, (Builtin.firstCells z k y).run P w = .ok xs.toArray w ∧ AV.rels ρ m.nx cs xs := by
  unfold firstA at h
  split at h
  · rename_i nn l wd r s n' cap
    split at h
    · rename_i hz
      have hz := Nat.eq_of_beq_eq_true hz
      split at h
      · rename_i bk hl
        split at h
        · rename_i hw
          have hw := Nat.eq_of_beq_eq_true hw
          subst hw
          simp only [slLen, Option.some.injEq] at hn
          subst hn
          simp only [AV.rel] at hy
          obtain ⟨_, A, c, rfl, _, hA, _⟩ := hy
          rw [hA h0]
          obtain ⟨xs, h1, h2, h3⟩ := loadN_ok (hm.blk _ _ hl).2.rel r 0 _ _ _ _ h hbs
          refine ⟨xs, ?_, h1⟩
          have := run_loadCells_list (P := P) w ⟨(ρ l).b, (ρ l).o + r * bk.cont.width, none⟩ xs (fun j v hv => by
            rw [add_none]
            have := h3 j v hv
            simpa [Nat.add_assoc] using this)
          rw [h2] at this
          exact this
        · cases h
      · cases h
    · cases h
  · cases h
theorem copyA_ok {t : TypeId} {a b v : AV} {m' : MS} {bs : List Bool} {x y : Value} (h : copyA P m t a b = some (v, m', bs)) (hm : MRel ρ m w) (hx : AV.rel ρ m.nx a x) (hy : AV.rel ρ m.nx b y) (hbs : bs.all id = true) (t' ty : TypeId) :
    MemOk P (Builtin.copy_ #[t, t'] ty #[x, y]) ρ m w v m' := by
  unfold copyA at h
  split at h
  · rename_i e hu
    split at h
    · rename_i i hi
      split at h
      · rename_i n n' hn hn'
        obtain ⟨A, c, rfl, _⟩ := slLen_ok (P := P) hn hx
        obtain ⟨A', c', rfl, hlen⟩ := slLen_ok (P := P) hn' hy
        split at h
        · rename_i h0
          have h0 := Nat.eq_of_beq_eq_true h0
          rw [minN_eq] at h0
          cases h
          refine ⟨ρ, _, w, ?_, by simp only [AV.rel]; rfl, hm, Moves.refl (Nat.le_refl _)⟩
          simp only [Builtin.copy_, List.getElem?_toArray, List.getElem?_cons_zero, List.getElem?_cons_succ, Sem.run_bind, run_underlying hu, Result.andThen_ok, hlen, run_sizeOf hi, Sem.run_pure]
          rw [h0]
          have hf : (Builtin.firstCells i.size 0 (.slice A' n' c')).run P w = .ok #[] w := by
            cases A' with
            | none => rfl
            | some a =>
              have := run_loadCells_list (P := P) w a [] (fun j v hv => by simp at hv)
              simp only [Builtin.firstCells, Nat.zero_mul]
              exact this
          rw [hf]
          cases A <;> simp [storeCells, goInt]
        · rename_i h0
          split at h
          · rename_i nn l wd r s n2 cap
            split at h
            · rename_i hz
              have hz := Nat.eq_of_beq_eq_true hz
              split at h
              · rename_i cs bs1 hf
                split at h
                · rename_i bk hl
                  split at h
                  · rename_i hw
                    split at h
                    · rename_i hwd
                      have hwd := Nat.eq_of_beq_eq_true hwd
                      subst hwd
                      split at h
                      · rename_i k bs2 hs
                        cases h
                        obtain ⟨b1, b2⟩ := all_app hbs
                        have hmin : Nat.min n' n ≠ 0 := fun e => by rw [minN_eq, e] at h0; cases h0
                        have hle1 : Nat.min n' n ≤ n' := Nat.min_le_left _ _
                        have hle2 : Nat.min n' n ≤ n := Nat.min_le_right _ _
                        obtain ⟨xs, g1, g2⟩ := firstA_ok (P := P) hf hn' (by omega) hm hy b1
                        simp only [slLen, Option.some.injEq] at hn
                        subst hn
                        simp only [AV.rel] at hx
                        obtain ⟨_, A2, c2, e2, _, hA, _⟩ := hx
                        cases e2
                        have hA := hA (by omega)
                        subst hA
                        obtain ⟨w', e1, e2, e3⟩ := storeN_ok (P := P) cs 0 m bk k bs2 w xs hm hl hw hs b2 g2
                        refine ⟨ρ, _, w', ?_, by simp only [AV.rel]; rfl, e2, e3⟩
                        rw [minN_eq] at g1 ⊢
                        simp only [Builtin.copy_, List.getElem?_toArray, List.getElem?_cons_zero, List.getElem?_cons_succ, Sem.run_bind, run_underlying hu, Result.andThen_ok, hlen, run_sizeOf hi, Sem.run_pure, g1]
                        have e1' : (storeCells ⟨(ρ l).b, (ρ l).o + r * bk.cont.width, none⟩ xs 0).run P w = .ok () w' := by simpa using e1
                        simp [e1', goInt]
                      · cases h
                    · cases h
                  · cases h
                · cases h
              · cases h
            · cases h
          · cases h
      · cases h
    · cases h
  · cases h
theorem appendZ_ok {t ty : TypeId} {a b v : AV} {x y : Value} {nx : Nat} (h : appendZ P t a b = some v) (hx : AV.rel ρ nx a x) (hy : AV.rel ρ nx b y) : PureOk P (Builtin.append_ #[t, t] ty #[x, y]) ρ nx w v := by
  unfold appendZ at h
  split at h
  · rename_i n hn
    split at h
    · rename_i h0
      have h0 := Nat.eq_of_beq_eq_true h0
      subst h0
      split at h
      · rename_i e hu
        split at h
        · rename_i i hi
          split at h
          · rename_i n' hn'
            cases h
            obtain ⟨A, c, rfl, hc, _⟩ := slLen_full (P := P) hn' hx
            obtain ⟨A', c', rfl, hlen⟩ := slLen_ok (P := P) hn hy
            refine ⟨_, ?_, hx⟩
            have hf : (Builtin.firstCells i.size 0 (.slice A' 0 c')).run P w = .ok #[] w := by
              cases A' with
              | none => rfl
              | some a =>
                have := run_loadCells_list (P := P) w a [] (fun j v hv => by simp at hv)
                simp only [Builtin.firstCells, Nat.zero_mul]
                exact this
            simp only [Builtin.append_, List.getElem?_toArray, List.getElem?_cons_zero, List.getElem?_cons_succ, Sem.run_bind, run_underlying hu, Result.andThen_ok, run_sizeOf hi, Sem.run_pure, hlen, Bool.false_eq_true, if_false, Nat.add_zero, Bool.not_false, if_true]
            rw [if_pos hc]
            simp only [Sem.run_bind, hf, Result.andThen_ok]
            cases A <;> simp [storeCells]
          · cases h
        · cases h
      · cases h
    · cases h
  · cases h
end
end Go.Proofs.YtnkpegdmbocgaaaDoor
