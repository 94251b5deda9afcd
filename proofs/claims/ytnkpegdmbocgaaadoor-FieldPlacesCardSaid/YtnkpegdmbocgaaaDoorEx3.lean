/-
  Operations that only compute: numbers, texts, comparisons, parts of values, addresses.
-/
import Derived.Test.YtnkpegdmbocgaaaDoorEx2
namespace Go.Proofs.YtnkpegdmbocgaaaDoor
open Go Go.RowKit

theorem all_cons {b : Bool} {l : List Bool} (h : (b :: l).all id = true) : b = true ∧ l.all id = true := by simpa using h
theorem all_app {l l' : List Bool} (h : (l ++ l').all id = true) : l.all id = true ∧ l'.all id = true := by simpa using h

/-- A comparison or a sum of two numbers. -/
def shiftA (op : BinOp) (k : IntKind) (x y : Int) : Option AV := match op with
  | .shl => some (.val (.int k (k.wrap (x * 2 ^ (min y.toNat k.bits)))))
  | .shr => some (.val (.int k (x.fdiv (2 ^ (min y.toNat k.bits)))))
  | _ => none
def intA (op : BinOp) (k : IntKind) (x y : Int) : Option (AV × Bool) := match op with
  | .add => some (.val (.int k (k.wrap (x + y))), false)
  | .sub => some (.val (.int k (k.wrap (x - y))), false)
  | .mul => some (.val (.int k (k.wrap (x * y))), false)
  | .quo => some (.val (.int k (k.wrap (x.tdiv y))), true)
  | .rem => some (.val (.int k (x.tmod y)), true)
  | .and => some (.val (.int k (bits .and k x y)), false)
  | .or => some (.val (.int k (bits .or k x y)), false)
  | .xor => some (.val (.int k (bits .xor k x y)), false)
  | .andNot => some (.val (.int k (bits .andNot k x y)), false)
  | .eql => some (.val (.bool (x == y)), false)
  | .neq => some (.val (.bool (x != y)), false)
  | .lss => some (.val (.bool (decide (x < y))), false)
  | .leq => some (.val (.bool (decide (x ≤ y))), false)
  | .gtr => some (.val (.bool (decide (x > y))), false)
  | .geq => some (.val (.bool (decide (x ≥ y))), false)
  | _ => none
/-- Two texts, one behind the other. -/
def catB (x y : ByteArray) : ByteArray := ⟨⟨x.data.toList ++ y.data.toList⟩⟩
def lenB (x : ByteArray) : Nat := x.data.toList.length
theorem catB_eq (x y : ByteArray) : catB x y = x ++ y := by
  apply ByteArray.ext
  apply Array.ext'
  simp [catB, ByteArray.data_append]
theorem lenB_eq (x : ByteArray) : lenB x = x.size := by
  show x.data.toList.length = x.data.size
  simp
def strA (op : BinOp) (x y : ByteArray) : Option (AV × List Bool) := match op with
  | .add => some (.val (.string (catB x y)), [Nat.ble (lenB x + lenB y) 9223372036854775807])
  | .eql => some (.val (.bool (x.toList == y.toList)), [])
  | .neq => some (.val (.bool (!(x.toList == y.toList))), [])
  | .lss => some (.val (.bool (Op.bytesLess x.toList y.toList)), [])
  | .leq => some (.val (.bool (Op.bytesLess x.toList y.toList || x.toList == y.toList)), [])
  | .gtr => some (.val (.bool (!(Op.bytesLess x.toList y.toList || x.toList == y.toList))), [])
  | .geq => some (.val (.bool (!Op.bytesLess x.toList y.toList)), [])
  | _ => none
def isShift : BinOp → Bool
  | .shl => true
  | .shr => true
  | _ => false
def isEq : BinOp → Bool
  | .eql => true
  | .neq => true
  | _ => false

/-- A part of a struct or an array, by value. -/
def aggT (P : Program) (t : TypeId) : Option Bool := match P.underlying t with
  | some (.struct _) => some true
  | some (.array _ _) => some true
  | some _ => some false
  | none => none
def partA (P : Program) (t : TypeId) (cs : List AV) (off : Nat) : Option AV := match aggT P t with
  | some true => match P.info? t with
    | some i => some (.agg ((cs.drop off).take i.size))
    | none => none
  | some false => cs[off]?
  | none => none

def strip : AV → AV
  | .gd _ _ _ v => v
  | v => v

/-- Are two values the same? By their type. -/
def eqFs (P : Program) (eq : TypeId → AV → AV → Option Bool) : List Field → List AV → List AV → Option Bool
  | [], _, _ => some true
  | f :: fs, xs, ys => match decide (f.name = "_") with
    | true => none
    | false => match partA P f.type xs f.offset, partA P f.type ys f.offset with
      | some a, some b => match eq f.type a b with
        | some r => match eqFs P eq fs xs ys with
          | some r' => some (r && r')
          | none => none
        | none => none
      | _, _ => none
def eqEs (P : Program) (eq : TypeId → AV → AV → Option Bool) (e : TypeId) (s : Nat) : Nat → Nat → List AV → List AV → Option Bool
  | 0, _, _, _ => some true
  | n + 1, i, xs, ys => match partA P e xs (i * s), partA P e ys (i * s) with
      | some a, some b => match eq e a b with
        | some r => match eqEs P eq e s n (i + 1) xs ys with
          | some r' => some (r && r')
          | none => none
        | none => none
      | _, _ => none
def eqA (P : Program) : Nat → TypeId → AV → AV → Option Bool
  | 0, _, _, _ => none
  | d + 1, t, x, y => match P.underlying t with
    | some .bool => match x, y with
      | .val (.bool a), .val (.bool b) => some (a == b)
      | _, _ => none
    | some (.int _) => match x, y with
      | .val (.int k a), .val (.int k' b) => match decide (k = k') with
        | true => some (a == b)
        | false => none
      | _, _ => none
    | some .string => match x, y with
      | .val (.string a), .val (.string b) => some (a == b)
      | _, _ => none
    | some (.pointer _) => match x, y with
      | .val (.pointer none), .val (.pointer none) => some true
      | .val (.pointer none), .ptr .. => some false
      | .ptr .., .val (.pointer none) => some false
      | _, _ => none
    | some (.slice _) => match x, y with
      | .val (.slice none _ _), .val (.slice none _ _) => some true
      | .val (.slice none _ _), .sl true .. => some false
      | .sl true .., .val (.slice none _ _) => some false
      | _, _ => none
    | some (.func ..) => match x, y with
      | .val .nilFunc, .val .nilFunc => some true
      | .clo .., .val .nilFunc => some false
      | .val .nilFunc, .clo .. => some false
      | _, _ => none
    | some (.struct fs) => match x, y with
      | .agg xs, .agg ys => match P.stoodInHeld t with
        | false => eqFs P (eqA P d) fs.toList xs ys
        | true => none
      | _, _ => none
    | some (.array n e) => match x, y with
      | .agg xs, .agg ys => match P.info? e with
        | some i => eqEs P (eqA P d) e i.size n 0 xs ys
        | none => none
      | _, _ => none
    | _ => none
section
variable {P : Program} {ρ : Rho} {nx : Nat} {w : World}
theorem rels_drop : ∀ {as : List AV} {xs : List Value} (n : Nat), AV.rels ρ nx as xs → AV.rels ρ nx (as.drop n) (xs.drop n)
  | as, xs, 0, h => by simpa using h
  | [], xs, n + 1, h => by simp only [AV.rels] at h; subst h; simp [AV.rels]
  | a :: as, xs, n + 1, h => by
    simp only [AV.rels] at h
    obtain ⟨y, ys, rfl, _, h2⟩ := h
    simpa using rels_drop n h2
theorem rels_take : ∀ {as : List AV} {xs : List Value} (n : Nat), AV.rels ρ nx as xs → AV.rels ρ nx (as.take n) (xs.take n)
  | as, xs, 0, h => by simp [AV.rels]
  | [], xs, n + 1, h => by simp only [AV.rels] at h; subst h; simp [AV.rels]
  | a :: as, xs, n + 1, h => by
    simp only [AV.rels] at h
    obtain ⟨y, ys, rfl, h1, h2⟩ := h
    simp only [List.take_succ_cons, AV.rels]
    exact ⟨y, _, rfl, h1, rels_take n h2⟩
theorem run_underlying {t : TypeId} {d : TypeDesc} (h : P.underlying t = some d) (w : World) : (underlying t).run P w = .ok d w := by
  simp [Go.underlying, h]
theorem run_typeInfo {t : TypeId} {i : TypeInfo} (h : P.info? t = some i) (w : World) : (typeInfo t).run P w = .ok i w := by
  simp [Go.typeInfo, h]
theorem run_sizeOf {t : TypeId} {i : TypeInfo} (h : P.info? t = some i) (w : World) : (sizeOf t).run P w = .ok i.size w := by
  simp [Go.sizeOf, run_typeInfo h]
theorem run_isAgg {t : TypeId} {b : Bool} (h : aggT P t = some b) (w : World) : (isAgg t).run P w = .ok b w := by
  unfold aggT at h
  cases hu : P.underlying t with
  | none => rw [hu] at h; cases h
  | some d =>
    rw [hu] at h
    simp only [Go.isAgg, Sem.run_bind, run_underlying hu, Result.andThen_ok]
    cases d <;> simp at h <;> subst h <;> rfl
theorem part_ok {t : TypeId} {cs : List AV} {xs : List Value} {off : Nat} {a : AV} (h : partA P t cs off = some a) (hr : AV.rels ρ nx cs xs) (w : World) : ∃ x, (part t xs.toArray off).run P w = .ok x w ∧ AV.rel ρ nx a x := by
  unfold partA at h
  cases ha : aggT P t with
  | none => rw [ha] at h; cases h
  | some b =>
    rw [ha] at h
    simp only [Go.part, Sem.run_bind, run_isAgg ha, Result.andThen_ok]
    cases b with
    | true =>
      simp only at h
      cases hi : P.info? t with
      | none => rw [hi] at h; cases h
      | some i =>
        rw [hi] at h
        simp only [Option.some.injEq] at h
        subst h
        simp only [if_true, Sem.run_bind, run_sizeOf hi, Result.andThen_ok, Sem.run_pure]
        refine ⟨_, rfl, ?_⟩
        simp only [AV.rel]
        refine ⟨(xs.drop off).take i.size, ?_, rels_take _ (rels_drop _ hr)⟩
        congr 1
        apply Array.ext'
        simp [List.drop_take]
    | false =>
      simp only at h
      obtain ⟨x, hx, hrx⟩ := hr.at_ h
      refine ⟨x, ?_, hrx⟩
      simp [hx]
theorem eqA_ok : ∀ (d : Nat) (t : TypeId) (x y : AV) (r : Bool) (x' y' : Value) (D : Nat), eqA P d t x y = some r → AV.rel ρ nx x x' → AV.rel ρ nx y y' → d ≤ D → (Op.equalIn D t x' y').run P w = .ok r w
  | 0, t, x, y, r, x', y', D, h, _, _, _ => by simp [eqA] at h
  | d + 1, t, x, y, r, x', y', 0, h, _, _, hd => by omega
  | d + 1, t, x, y, r, x', y', D + 1, h, hx, hy, hd => by
    have IH := fun t x y r x' y' h hx hy => eqA_ok d t x y r x' y' D h hx hy (by omega)
    simp only [eqA] at h
    cases hu : P.underlying t with
    | none => rw [hu] at h; cases h
    | some ty =>
      rw [hu] at h
      cases ty with
      | struct fs =>
        cases x <;> (try dsimp only at h) <;> try cases h
        cases y <;> (try dsimp only at h) <;> try cases h
        rename_i xs ys
        cases hs : P.stoodInHeld t with
        | true => rw [hs] at h; cases h
        | false =>
          rw [hs] at h
          dsimp only at h
          simp only [AV.rel] at hx hy
          obtain ⟨xs', rfl, hxs⟩ := hx
          obtain ⟨ys', rfl, hys⟩ := hy
          simp only [Op.equalIn, Sem.run_bind, run_underlying hu, Result.andThen_ok, run_program, hs, Bool.false_eq_true, if_false]
          rw [← Array.forIn_toList]
          generalize fs.toList = L at h ⊢
          induction L generalizing r with
          | nil => simp only [eqFs, Option.some.injEq] at h; subst h; simp
          | cons f L ih =>
            simp only [eqFs] at h
            by_cases hn : f.name = "_"
            · simp [hn] at h
            · simp only [hn, decide_false] at h
              cases h1 : partA P f.type xs f.offset with
              | none => rw [h1] at h; cases h
              | some a =>
                cases h2 : partA P f.type ys f.offset with
                | none => rw [h1, h2] at h; cases h
                | some b =>
                  rw [h1, h2] at h
                  dsimp only at h
                  cases h3 : eqA P d f.type a b with
                  | none => rw [h3] at h; cases h
                  | some q =>
                    rw [h3] at h
                    dsimp only at h
                    cases h4 : eqFs P (eqA P d) L xs ys with
                    | none => rw [h4] at h; cases h
                    | some q' =>
                      rw [h4] at h
                      simp only [Option.some.injEq] at h
                      subst h
                      obtain ⟨a', p1, r1⟩ := part_ok h1 hxs w
                      obtain ⟨b', p2, r2⟩ := part_ok h2 hys w
                      have p3 := IH _ _ _ _ _ _ h3 r1 r2
                      simp only [List.forIn_cons, Sem.run_bind, hn, ne_eq, not_false_eq_true, if_true, Result.andThen_ok, p1, p2, p3, Sem.run_pure]
                      cases q with
                      | true =>
                        have := ih q' h4
                        simpa using this
                      | false => simp
      | array n e =>
        cases x <;> (try dsimp only at h) <;> try cases h
        cases y <;> (try dsimp only at h) <;> try cases h
        rename_i xs ys
        simp only [AV.rel] at hx hy
        obtain ⟨xs', rfl, hxs⟩ := hx
        obtain ⟨ys', rfl, hys⟩ := hy
        cases hi : P.info? e with
        | none => rw [hi] at h; cases h
        | some i =>
          rw [hi] at h
          dsimp only at h
          simp only [Op.equalIn, Sem.run_bind, run_underlying hu, Result.andThen_ok, run_sizeOf hi]
          simp only [Std.Legacy.Range.forIn_eq_forIn_range', Std.Legacy.Range.size, Nat.sub_zero, Nat.add_one_sub_one, Nat.div_one]
          generalize 0 = j at h ⊢
          clear hu
          induction n generalizing j r with
          | zero => simp only [eqEs, Option.some.injEq] at h; subst h; simp
          | succ n ih =>
            simp only [eqEs] at h
            cases h1 : partA P e xs (j * i.size) with
            | none => rw [h1] at h; cases h
            | some a =>
              cases h2 : partA P e ys (j * i.size) with
              | none => rw [h1, h2] at h; cases h
              | some b =>
                rw [h1, h2] at h
                dsimp only at h
                cases h3 : eqA P d e a b with
                | none => rw [h3] at h; cases h
                | some q =>
                  rw [h3] at h
                  dsimp only at h
                  cases h4 : eqEs P (eqA P d) e i.size n (j + 1) xs ys with
                  | none => rw [h4] at h; cases h
                  | some q' =>
                    rw [h4] at h
                    simp only [Option.some.injEq] at h
                    subst h
                    obtain ⟨a', p1, r1⟩ := part_ok h1 hxs w
                    obtain ⟨b', p2, r2⟩ := part_ok h2 hys w
                    have p3 := IH _ _ _ _ _ _ h3 r1 r2
                    simp only [List.range'_succ, List.forIn_cons, Sem.run_bind, Result.andThen_ok, p1, p2, p3, Sem.run_pure]
                    cases q with
                    | true =>
                      have := ih q' (j + 1) h4
                      simpa [run_sizeOf hi, p1, p2, p3] using this
                    | false => simp [run_sizeOf hi, p1, p2, p3]
      | func ps rs vr =>
        dsimp only at h
        split at h
        · cases h
          simp only [AV.rel] at hx hy
          subst hx hy
          simp [Op.equalIn, run_underlying hu]
        · cases h
          simp only [AV.rel] at hx hy
          obtain ⟨_, _, rfl, _⟩ := hx
          subst hy
          simp [Op.equalIn, run_underlying hu]
        · cases h
          simp only [AV.rel] at hx hy
          obtain ⟨_, _, rfl, _⟩ := hy
          subst hx
          simp [Op.equalIn, run_underlying hu]
        · cases h
      | bool =>
        cases x <;> (try dsimp only at h) <;> try cases h
        rename_i u
        cases u <;> (try dsimp only at h) <;> try cases h
        cases y <;> (try dsimp only at h) <;> try cases h
        rename_i u
        cases u <;> (try dsimp only at h) <;> try cases h
        simp only [AV.rel] at hx hy
        subst hx hy
        simp [Op.equalIn, run_underlying hu]
      | int k =>
        cases x <;> (try dsimp only at h) <;> try cases h
        rename_i u
        cases u <;> (try dsimp only at h) <;> try cases h
        cases y <;> (try dsimp only at h) <;> try cases h
        rename_i u
        cases u <;> (try dsimp only at h) <;> try cases h
        rename_i k1 a k2 b
        by_cases hk : k1 = k2
        · simp [hk] at h
          simp only [AV.rel] at hx hy
          subst hx hy h
          simp [Op.equalIn, run_underlying hu, hk]
        · simp [hk] at h
      | string =>
        cases x <;> (try dsimp only at h) <;> try cases h
        rename_i u
        cases u <;> (try dsimp only at h) <;> try cases h
        cases y <;> (try dsimp only at h) <;> try cases h
        rename_i u
        cases u <;> (try dsimp only at h) <;> try cases h
        simp only [AV.rel] at hx hy
        subst hx hy
        simp [Op.equalIn, run_underlying hu]
      | pointer e =>
        have Hx : x' = .pointer none ∨ ∃ a, x' = .pointer (some a) := by
          cases x <;> (try dsimp only at h) <;> try cases h
          · rename_i u
            cases u <;> (try dsimp only at h) <;> try cases h
            simp only [AV.rel] at hx
            rename_i q
            cases q
            · exact .inl hx
            · exact .inr ⟨_, hx⟩
          · simp only [AV.rel] at hx; exact .inr ⟨_, hx.2⟩
        cases x <;> (try dsimp only at h) <;> try cases h
        · rename_i u
          cases u <;> (try dsimp only at h) <;> try cases h
          rename_i q
          cases q <;> (try dsimp only at h) <;> try cases h
          simp only [AV.rel] at hx
          subst hx
          cases y <;> (try dsimp only at h) <;> try cases h
          · rename_i u
            cases u <;> (try dsimp only at h) <;> try cases h
            rename_i q
            cases q <;> (try dsimp only at h) <;> try cases h
            simp only [AV.rel] at hy
            subst hy
            simp [Op.equalIn, run_underlying hu]
          · simp only [AV.rel] at hy
            rw [hy.2]
            simp [Op.equalIn, run_underlying hu]
        · simp only [AV.rel] at hx
          rw [hx.2]
          cases y <;> (try dsimp only at h) <;> try cases h
          rename_i u
          cases u <;> (try dsimp only at h) <;> try cases h
          rename_i q
          cases q <;> (try dsimp only at h) <;> try cases h
          simp only [AV.rel] at hy
          subst hy
          simp [Op.equalIn, run_underlying hu]
      | slice e =>
        have F : ∀ {nn : Bool} {l w0 r s n : Nat} {cap : Option Nat} {z : Value}, nn = true → AV.rel ρ nx (.sl nn l w0 r s n cap) z → ∃ a c, z = .slice (some a) n c := fun hn hz => by
          simp only [AV.rel] at hz
          obtain ⟨_, A, c, e1, _, _, h2, _⟩ := hz
          obtain ⟨a, rfl⟩ := Option.isSome_iff_exists.1 (h2 hn)
          exact ⟨a, c, e1⟩
        dsimp only at h
        split at h
        · simp only [AV.rel] at hx hy
          subst hx hy
          cases h
          simp [Op.equalIn, run_underlying hu]
        · obtain ⟨a, c, rfl⟩ := F rfl hy
          simp only [AV.rel] at hx
          subst hx
          cases h
          simp [Op.equalIn, run_underlying hu]
        · obtain ⟨a, c, rfl⟩ := F rfl hx
          simp only [AV.rel] at hy
          subst hy
          cases h
          simp [Op.equalIn, run_underlying hu]
        · cases h
      | _ => cases h
end
end Go.Proofs.YtnkpegdmbocgaaaDoor
