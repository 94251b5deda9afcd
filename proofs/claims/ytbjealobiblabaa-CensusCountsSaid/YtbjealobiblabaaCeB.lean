/-
  The statement CensusCounts of layer 23 (census), proved.
-/
import Derived.Test.YtbjealobiblabaaCeBe
namespace Go.Proofs.Ytbjealobiblabaa
open Go Go.ChangeShapes Go.WideShapes Go.ChangeAt Go.RowKit Go.Deep
set_option maxRecDepth 100000
def e_hint : Spec := fun _ _ => some (.unk, none, [false])
theorem ok_hint : SpecOk Try.prog 1000004 e_hint := fun m args v mo bs h hb => by
  unfold e_hint at h
  cases h
  simp at hb
def e_ofE (es : List KV) : Spec := fun m args => match args with
  | [.sl _ l 5 0 1 n _] => match look m.bl l with
    | some ⟨_, _, .rows [.ints .i64 P, .ints .i64 R, .ints .i64 S, .ints .i64 A, .bools G]⟩ => some (.ptr (m.nx + 1) 1 0 0, some ⟨(m.nx, some ⟨true, false, .obj (.mpo 3 2 es)⟩) :: (m.nx + 1, some ⟨true, false, .cells [.mp m.nx]⟩) :: m.bl, m.nx + 2⟩,
        [decide (ofF P R S A 0 n [] = es), Nat.blt l m.nx, Nat.ble n 4096, Nat.ble n P.length, Nat.ble n R.length, Nat.ble n S.length, Nat.ble n A.length, Nat.ble n G.length])
    | _ => none
  | _ => none
theorem ok_ofE (es : List KV) : SpecOk Try.prog 11 (e_ofE es) := fun m args v mo bs h hb => by
  unfold e_ofE at h
  split at h
  · rename_i nn l n c
    split at h <;> cases h
    rename_i wr op P R S A G hl
    obtain ⟨h1, hb2⟩ := all_cons hb
    have h1 : ofF P R S A 0 n [] = es := by simpa using h1
    subst h1
    exact ok_of m [.sl nn l 5 0 1 n c] _ _ _ (by simp only [e_of, hl]) hb2
  · cases h
def e_rrowsL (L : List KV) : Spec := fun m args => match args with
  | [.sl _ l 5 0 1 n _] => match look m.bl l with
    | some ⟨_, _, .rows [.ints .i64 P, .ints .i64 R, .ints .i64 S, .ints .i64 A, .bools G]⟩ => some (.sl false m.nx 5 0 1 L.length none, some ⟨(m.nx, some ⟨false, false, .rows (colsF fs5 L)⟩) :: m.bl, m.nx + 1⟩,
        [decide (RF (hdI P R S A 0 n) = L), Nat.ble n 4096, Nat.ble n P.length, Nat.ble n R.length, Nat.ble n S.length, Nat.ble n A.length, Nat.ble n G.length])
    | _ => none
  | _ => none
theorem ok_rrowsL (L : List KV) : SpecOk Try.prog 16 (e_rrowsL L) := fun m args v mo bs h hb => by
  unfold e_rrowsL at h
  split at h
  · rename_i nn l n c
    split at h <;> cases h
    rename_i wr op P R S A G hl
    obtain ⟨h1, hb2⟩ := all_cons hb
    have h1 : RF (hdI P R S A 0 n) = L := by simpa using h1
    subst h1
    exact ok_rrows m [.sl nn l 5 0 1 n c] _ _ _ (by simp only [e_rrows, hl]) hb2
  · cases h
abbrev L_cc (es l : List KV) : List (FuncId × Spec) := (10, e_aw23) :: (11, e_ofE es) :: (16, e_rrowsL l) :: (18, e_rowsL l) :: (17, e_sameL l) :: (14, e_Total) :: (20, e_rtot) :: (12, e_Site) :: (13, e_Class) :: (15, e_Old) :: (21, e_someL l) :: (22, e_at) :: L_haymowlaw23_sum
theorem hE_cc (es l : List KV) : ESound Try.prog (envOf (L_cc es l)) := env_cons ok_aw23 (env_cons (ok_ofE es) (env_cons (ok_rrowsL l) (env_cons (ok_rowsL l) (env_cons (ok_sameL l) (env_cons ok_Total (env_cons ok_rtot (env_cons ok_Site (env_cons ok_Class (env_cons ok_Old (env_cons (ok_someL l) (env_cons ok_at hE_haymowlaw23_sum)))))))))))
abbrev L_ccH (es l : List KV) : List (FuncId × Spec) := (1000004, e_hint) :: L_cc es l
theorem hE_ccH (es l : List KV) : ESound Try.prog (envOf (L_ccH es l)) := env_cons ok_hint (hE_cc es l)
abbrev ccT (nn : Bool) (n : Nat) (c : Option Nat) (N : Nat) (t7 t8 t9 t10 t11 : AV) : List AV := [.sl nn 0 5 0 1 n c, .unk, .unk, .ptr 1 1 0 0, .unk, .ptr 3 1 0 0, .sl false 4 5 0 1 N none, t7, t8, t9, t10, t11] ++ List.replicate 193 .unk
abbrev ccM (P R S A : List Int) (G : List Bool) (x y z : Int) (es l : List KV) (r : List (Nat × Option ABlk)) (nx : Nat) : MS := ⟨[(0, some ⟨false, false, hdC P R S A G⟩), (1, some ⟨true, false, .cells [vi x, vi y, vi z]⟩), (2, some ⟨true, false, .obj (.mpo 3 2 es)⟩), (3, some ⟨true, false, .cells [.mp 2]⟩), (4, some ⟨false, false, .rows (colsF fs5 l)⟩)] ++ r, nx⟩
abbrev ccC (a : Nat) : List Cut := [(2,[0,3,5,6,7,8,9,10,11],[0,1,2,3,4,5,6],a)]
abbrev ccR (x y z a b : Int) : List (Nat × Option ABlk) := [(5, some ⟨true, false, .cells [vi x, vi y, vi z]⟩), (6, some ⟨true, false, .cells [vi a, vi b]⟩)]
abbrev cc0 : List (Nat × Option ABlk) := [(5, none), (6, none)]
theorem cc_big (es l : List KV) (P R S A : List Int) (G : List Bool) (nn : Bool) (n : Nat) (c : Option Nat) (x y z : Int) : FO_ Try.prog (L_cc es l) Try.f4 (ccC 60) [] 200 [2, 1] [.sl nn 0 5 0 1 n c, .agg [vi x, vi y, vi z]] ⟨[(0, some ⟨false, false, hdC P R S A G⟩)], 1⟩ = some (.ret (vb true) ⟨[], 200⟩ (conj [decide (40 < Int.ofNat n)])) := by kernel_rfl
theorem cc_in (es l : List KV) (P R S A : List Int) (G : List Bool) (nn : Bool) (n : Nat) (c : Option Nat) (x y z : Int) : FO_ Try.prog (L_ccH es l) Try.f4 [(2,[0,3,5,6,7],[0,1,2,3,4],60)] [] 200 [2, 0, 2] [.sl nn 0 5 0 1 n c, .agg [vi x, vi y, vi z]] ⟨[(0, some ⟨false, false, hdC P R S A G⟩)], 1⟩ =
    some (.head (hd Try.f4 0) (ccT nn n c l.length (vi 0) .unk .unk .unk .unk) (ccM P R S A G x y z es l [] 60) (conj [!decide (40 < Int.ofNat n), decide (ofF P R S A 0 n [] = es), Nat.ble n 4096, Nat.ble n P.length, Nat.ble n R.length, Nat.ble n S.length, Nat.ble n A.length, Nat.ble n G.length, decide (RF (hdI P R S A 0 n) = l), Nat.ble n 4096, Nat.ble n P.length, Nat.ble n R.length, Nat.ble n S.length, Nat.ble n A.length, Nat.ble n G.length, decide (KD es), Nat.ble es.length 4096, decide (sortK es = l), Nat.ble l.length 4096, decide (l.length = l.length), decide (l.length = l.length), decide (l.map kA = l.map kA), decide (l.map kB = l.map kB), decide (l.map kC = l.map kC), decide (l.map kD = l.map kD), decide (l.map kE = l.map kE), decide (l.map kA = l.map kA), decide (l.map kB = l.map kB), decide (l.map kC = l.map kC), decide (l.map kD = l.map kD), decide (l.map kE = l.map kE), false || decide (KD es), false || Nat.ble es.length 4096, false || Nat.ble l.length 4096, false || Nat.ble l.length (l.map kD).length, false || Nat.ble l.length (l.map kE).length, false || !!(totF (pTotal 0) kD (sortK es) 0 == toC (l.map kD) 0 l.length 0 && (totF (pTotal 0) kE (sortK es) 0 == toC (l.map kE) 0 l.length 0 && true)), false || decide (KD es), false || Nat.ble es.length 4096, Nat.ble l.length 4096, decide (l.length = l.length), decide (l.map kA = l.map kA), decide (l.map kB = l.map kB), decide (l.map kC = l.map kC), decide (l.map kD = l.map kD), decide (l.map kE = l.map kE), false || Nat.ble (l.filter (someP 0 x)).length 4096, false || Nat.ble (l.filter (someP 0 x)).length ((l.filter (someP 0 x)).map kD).length, false || Nat.ble (l.filter (someP 0 x)).length ((l.filter (someP 0 x)).map kE).length, false || !!(totF (pSite x) kD (sortK es) 0 == toC ((l.filter (someP 0 x)).map kD) 0 (l.filter (someP 0 x)).length 0 && (totF (pSite x) kE (sortK es) 0 == toC ((l.filter (someP 0 x)).map kE) 0 (l.filter (someP 0 x)).length 0 && true)), false || decide (KD es), false || Nat.ble es.length 4096, Nat.ble l.length 4096, decide (l.length = l.length), decide (l.map kA = l.map kA), decide (l.map kB = l.map kB), decide (l.map kC = l.map kC), decide (l.map kD = l.map kD), decide (l.map kE = l.map kE), false || Nat.ble (l.filter (someP 1 y)).length 4096, false || Nat.ble (l.filter (someP 1 y)).length ((l.filter (someP 1 y)).map kD).length, false || Nat.ble (l.filter (someP 1 y)).length ((l.filter (someP 1 y)).map kE).length, false || !!(totF (pClass y) kD (sortK es) 0 == toC ((l.filter (someP 1 y)).map kD) 0 (l.filter (someP 1 y)).length 0 && (totF (pClass y) kE (sortK es) 0 == toC ((l.filter (someP 1 y)).map kE) 0 (l.filter (someP 1 y)).length 0 && true)), false || decide (KD es), false || Nat.ble es.length 4096, Nat.ble l.length 4096, decide (l.length = l.length), decide (l.map kA = l.map kA), decide (l.map kB = l.map kB), decide (l.map kC = l.map kC), decide (l.map kD = l.map kD), decide (l.map kE = l.map kE), false || Nat.ble (l.filter (someP 2 z)).length 4096, false || Nat.ble (l.filter (someP 2 z)).length ((l.filter (someP 2 z)).map kD).length, false || Nat.ble (l.filter (someP 2 z)).length ((l.filter (someP 2 z)).map kE).length, false || !!(totF (pOld z) kD (sortK es) 0 == toC ((l.filter (someP 2 z)).map kD) 0 (l.filter (someP 2 z)).length 0 && (totF (pOld z) kE (sortK es) 0 == toC ((l.filter (someP 2 z)).map kE) 0 (l.filter (someP 2 z)).length 0 && true))])) := by kernel_rfl
theorem cc_1 (es l : List KV) (P R S A : List Int) (G : List Bool) (nn : Bool) (n : Nat) (c : Option Nat) (x y z : Int) (i : Int) : HO_ Try.prog (L_ccH es l) Try.f4 (ccC 60) [] 200 [1, 0] (hd Try.f4 0) (ccT nn n c l.length (vi i) .unk .unk .unk .unk) (ccM P R S A G x y z es l [] 5) =
    some (.head (hd Try.f4 0) (ccT nn n c l.length (vi (up1 i)) .unk .unk .unk .unk) (ccM P R S A G x y z es l cc0 60) (conj [decide (i < Int.ofNat l.length), decide (0 ≤ i), decide (i.toNat < l.length), decide (iz i < (l.map kA).length), decide (0 ≤ i), decide (i.toNat < l.length), decide (iz i < (l.map kB).length), decide (0 ≤ i), decide (i.toNat < l.length), decide (iz i < (l.map kC).length), keysN 3 es, decide (0 ≤ i), decide (i.toNat < l.length), decide (iz i < (l.map kD).length), decide (0 ≤ i), decide (i.toNat < l.length), decide (iz i < (l.map kE).length), !!(((lookM es [(l.map kA).getD (iz i) 0, (l.map kB).getD (iz i) 0, (l.map kC).getD (iz i) 0]).getD [0, 0]).headD 0 == (l.map kD).getD (iz i) 0 && (((lookM es [(l.map kA).getD (iz i) 0, (l.map kB).getD (iz i) 0, (l.map kC).getD (iz i) 0]).getD [0, 0]).tail.headD 0 == (l.map kE).getD (iz i) 0 && true))])) := by kernel_rfl
theorem cc_1e (es l : List KV) (P R S A : List Int) (G : List Bool) (nn : Bool) (n : Nat) (c : Option Nat) (x y z : Int) (i : Int) : HO_ Try.prog (L_ccH es l) Try.f4 (ccC 60) [] 200 [0] (hd Try.f4 0) (ccT nn n c l.length (vi i) .unk .unk .unk .unk) (ccM P R S A G x y z es l [] 5) =
    some (.head (hd Try.f4 1) (ccT nn n c l.length (vi i) (vi 0) .unk .unk .unk) (ccM P R S A G x y z es l cc0 60) (conj [!decide (i < Int.ofNat l.length)])) := by kernel_rfl
theorem cc_2 (es l : List KV) (P R S A : List Int) (G : List Bool) (nn : Bool) (n : Nat) (c : Option Nat) (x y z : Int) (i : Int) : HO_ Try.prog (L_cc es l) Try.f4 (ccC 60) [] 200 [1, 0] (hd Try.f4 1) (ccT nn n c l.length .unk (vi i) .unk .unk .unk) (ccM P R S A G x y z es l [] 5) =
    some (.head (hd Try.f4 1) (ccT nn n c l.length .unk (vi (up1 i)) .unk .unk .unk) (ccM P R S A G x y z es l cc0 60) (conj [decide (i < Int.ofNat n), decide (0 ≤ i), decide (i.toNat < n), decide (iz i < P.length), decide (iz i < R.length), decide (iz i < S.length), decide (iz i < A.length), decide (iz i < G.length), !(haymowref12_Check_0 (P.getD (iz i) 0) (R.getD (iz i) 0) (S.getD (iz i) 0) (A.getD (iz i) 0) (G.getD (iz i) false) == 0) || decide (0 ≤ i), !(haymowref12_Check_0 (P.getD (iz i) 0) (R.getD (iz i) 0) (S.getD (iz i) 0) (A.getD (iz i) 0) (G.getD (iz i) false) == 0) || decide (i.toNat < n), !(haymowref12_Check_0 (P.getD (iz i) 0) (R.getD (iz i) 0) (S.getD (iz i) 0) (A.getD (iz i) 0) (G.getD (iz i) false) == 0) || decide (iz i < P.length), !(haymowref12_Check_0 (P.getD (iz i) 0) (R.getD (iz i) 0) (S.getD (iz i) 0) (A.getD (iz i) 0) (G.getD (iz i) false) == 0) || decide (iz i < R.length), !(haymowref12_Check_0 (P.getD (iz i) 0) (R.getD (iz i) 0) (S.getD (iz i) 0) (A.getD (iz i) 0) (G.getD (iz i) false) == 0) || decide (iz i < S.length), !(haymowref12_Check_0 (P.getD (iz i) 0) (R.getD (iz i) 0) (S.getD (iz i) 0) (A.getD (iz i) 0) (G.getD (iz i) false) == 0) || decide (iz i < A.length), !(haymowref12_Check_0 (P.getD (iz i) 0) (R.getD (iz i) 0) (S.getD (iz i) 0) (A.getD (iz i) 0) (G.getD (iz i) false) == 0) || decide (iz i < G.length), !(haymowref12_Check_0 (P.getD (iz i) 0) (R.getD (iz i) 0) (S.getD (iz i) 0) (A.getD (iz i) 0) (G.getD (iz i) false) == 0) || c_census_Of (P.getD (iz i) 0) (R.getD (iz i) 0) (S.getD (iz i) 0) (A.getD (iz i) 0) (G.getD (iz i) false), !(haymowref12_Check_0 (P.getD (iz i) 0) (R.getD (iz i) 0) (S.getD (iz i) 0) (A.getD (iz i) 0) (G.getD (iz i) false) == 0) || decide (0 ≤ i), !(haymowref12_Check_0 (P.getD (iz i) 0) (R.getD (iz i) 0) (S.getD (iz i) 0) (A.getD (iz i) 0) (G.getD (iz i) false) == 0) || decide (i.toNat < n), !(haymowref12_Check_0 (P.getD (iz i) 0) (R.getD (iz i) 0) (S.getD (iz i) 0) (A.getD (iz i) 0) (G.getD (iz i) false) == 0) || decide (iz i < S.length), !(haymowref12_Check_0 (P.getD (iz i) 0) (R.getD (iz i) 0) (S.getD (iz i) 0) (A.getD (iz i) 0) (G.getD (iz i) false) == 0) || decide (0 ≤ i), !(haymowref12_Check_0 (P.getD (iz i) 0) (R.getD (iz i) 0) (S.getD (iz i) 0) (A.getD (iz i) 0) (G.getD (iz i) false) == 0) || decide (i.toNat < n), !(haymowref12_Check_0 (P.getD (iz i) 0) (R.getD (iz i) 0) (S.getD (iz i) 0) (A.getD (iz i) 0) (G.getD (iz i) false) == 0) || decide (iz i < P.length), !(haymowref12_Check_0 (P.getD (iz i) 0) (R.getD (iz i) 0) (S.getD (iz i) 0) (A.getD (iz i) 0) (G.getD (iz i) false) == 0) || decide (iz i < R.length), !(haymowref12_Check_0 (P.getD (iz i) 0) (R.getD (iz i) 0) (S.getD (iz i) 0) (A.getD (iz i) 0) (G.getD (iz i) false) == 0) || decide (0 ≤ i), !(haymowref12_Check_0 (P.getD (iz i) 0) (R.getD (iz i) 0) (S.getD (iz i) 0) (A.getD (iz i) 0) (G.getD (iz i) false) == 0) || decide (i.toNat < n), !(haymowref12_Check_0 (P.getD (iz i) 0) (R.getD (iz i) 0) (S.getD (iz i) 0) (A.getD (iz i) 0) (G.getD (iz i) false) == 0) || decide (iz i < A.length), !(bif (haymowref12_Check_0 (P.getD (iz i) 0) (R.getD (iz i) 0) (S.getD (iz i) 0) (A.getD (iz i) 0) (G.getD (iz i) false) == 0) then !((S.getD (iz i) 0) == (S.getD (iz i) 0) && (census_Of_0 (P.getD (iz i) 0) (R.getD (iz i) 0) (S.getD (iz i) 0) (A.getD (iz i) 0) (G.getD (iz i) false) == haymowref04_Of_0 (haymowref13_Words_0 (P.getD (iz i) 0) (R.getD (iz i) 0)) && ((A.getD (iz i) 0) == (A.getD (iz i) 0) && true))) else false)])) := by kernel_rfl
theorem cc_2e (es l : List KV) (P R S A : List Int) (G : List Bool) (nn : Bool) (n : Nat) (c : Option Nat) (x y z : Int) (i : Int) : HO_ Try.prog (L_cc es l) Try.f4 (ccC 60) [] 200 [0] (hd Try.f4 1) (ccT nn n c l.length .unk (vi i) .unk .unk .unk) (ccM P R S A G x y z es l [] 5) =
    some (.head (hd Try.f4 2) (ccT nn n c l.length .unk (vi i) (.ptr 5 1 0 0) (.ptr 6 1 0 0) (vi 0)) (ccM P R S A G x y z es l (ccR x y z 0 0) 60) (conj [!decide (i < Int.ofNat n)])) := by kernel_rfl
theorem cc_3y (es l : List KV) (P R S A : List Int) (G : List Bool) (nn : Bool) (n : Nat) (c : Option Nat) (x y z : Int) (i a b : Int) : HO_ Try.prog (L_cc es l) Try.f4 (ccC 60) [] 200 [1, 1] (hd Try.f4 2) (ccT nn n c l.length .unk .unk (.ptr 5 1 0 0) (.ptr 6 1 0 0) (vi i)) (ccM P R S A G x y z es l (ccR x y z a b) 7) =
    some (.head (hd Try.f4 2) (ccT nn n c l.length .unk .unk (.ptr 5 1 0 0) (.ptr 6 1 0 0) (vi (up1 i))) (ccM P R S A G x y z es l (ccR x y z ((l.map kD).getD (iz i) 0) ((l.map kE).getD (iz i) 0)) 60) (conj [decide (i < Int.ofNat l.length), decide (0 ≤ i), decide (i.toNat < l.length), decide (iz i < (l.map kA).length), !((l.map kA).getD (iz i) 0 == x) || decide (0 ≤ i), !((l.map kA).getD (iz i) 0 == x) || decide (i.toNat < l.length), !((l.map kA).getD (iz i) 0 == x) || decide (iz i < (l.map kB).length), !((l.map kA).getD (iz i) 0 == x) || true, !((l.map kA).getD (iz i) 0 == x) || true, !(bif ((l.map kA).getD (iz i) 0 == x) then (l.map kB).getD (iz i) 0 == y else false) || decide (0 ≤ i), !(bif ((l.map kA).getD (iz i) 0 == x) then (l.map kB).getD (iz i) 0 == y else false) || decide (i.toNat < l.length), !(bif ((l.map kA).getD (iz i) 0 == x) then (l.map kB).getD (iz i) 0 == y else false) || decide (iz i < (l.map kC).length), !(bif ((l.map kA).getD (iz i) 0 == x) then (l.map kB).getD (iz i) 0 == y else false) || true, !(bif ((l.map kA).getD (iz i) 0 == x) then (l.map kB).getD (iz i) 0 == y else false) || true, (bif (bif ((l.map kA).getD (iz i) 0 == x) then (l.map kB).getD (iz i) 0 == y else false) then (l.map kC).getD (iz i) 0 == z else false), decide (0 ≤ i), decide (i.toNat < l.length), decide (iz i < (l.map kD).length), decide (0 ≤ i), decide (i.toNat < l.length), decide (iz i < (l.map kE).length)])) := by kernel_rfl
theorem cc_3n (es l : List KV) (P R S A : List Int) (G : List Bool) (nn : Bool) (n : Nat) (c : Option Nat) (x y z : Int) (i a b : Int) : HO_ Try.prog (L_cc es l) Try.f4 (ccC 60) [] 200 [1, 0] (hd Try.f4 2) (ccT nn n c l.length .unk .unk (.ptr 5 1 0 0) (.ptr 6 1 0 0) (vi i)) (ccM P R S A G x y z es l (ccR x y z a b) 7) =
    some (.head (hd Try.f4 2) (ccT nn n c l.length .unk .unk (.ptr 5 1 0 0) (.ptr 6 1 0 0) (vi (up1 i))) (ccM P R S A G x y z es l (ccR x y z a b) 60) (conj [decide (i < Int.ofNat l.length), decide (0 ≤ i), decide (i.toNat < l.length), decide (iz i < (l.map kA).length), !((l.map kA).getD (iz i) 0 == x) || decide (0 ≤ i), !((l.map kA).getD (iz i) 0 == x) || decide (i.toNat < l.length), !((l.map kA).getD (iz i) 0 == x) || decide (iz i < (l.map kB).length), !((l.map kA).getD (iz i) 0 == x) || true, !((l.map kA).getD (iz i) 0 == x) || true, !(bif ((l.map kA).getD (iz i) 0 == x) then (l.map kB).getD (iz i) 0 == y else false) || decide (0 ≤ i), !(bif ((l.map kA).getD (iz i) 0 == x) then (l.map kB).getD (iz i) 0 == y else false) || decide (i.toNat < l.length), !(bif ((l.map kA).getD (iz i) 0 == x) then (l.map kB).getD (iz i) 0 == y else false) || decide (iz i < (l.map kC).length), !(bif ((l.map kA).getD (iz i) 0 == x) then (l.map kB).getD (iz i) 0 == y else false) || true, !(bif ((l.map kA).getD (iz i) 0 == x) then (l.map kB).getD (iz i) 0 == y else false) || true, !(bif (bif ((l.map kA).getD (iz i) 0 == x) then (l.map kB).getD (iz i) 0 == y else false) then (l.map kC).getD (iz i) 0 == z else false)])) := by kernel_rfl
theorem cc_3e (es l : List KV) (P R S A : List Int) (G : List Bool) (nn : Bool) (n : Nat) (c : Option Nat) (x y z : Int) (i a b : Int) : HO_ Try.prog (L_ccH es l) Try.f4 (ccC 60) [] 200 [0] (hd Try.f4 2) (ccT nn n c l.length .unk .unk (.ptr 5 1 0 0) (.ptr 6 1 0 0) (vi i)) (ccM P R S A G x y z es l (ccR x y z a b) 7) =
    some (.ret (vb true) ⟨[], 200⟩ (conj [!decide (i < Int.ofNat l.length), keysN 3 es, ((lookM es [x, y, z]).getD [0, 0]).headD 0 == a && (((lookM es [x, y, z]).getD [0, 0]).tail.headD 0 == b && true)])) := by kernel_rfl
theorem Goes.mask {B : Nat} {todo : List Item} {tm : List AV} {m : MS} (live : List Nat) : Goes Try.prog B ⟨todo, tm, m⟩ ⟨todo, maskA live 0 tm, m⟩ := fun b cs ρ a w ht hm hB => ⟨ρ, a, w, Steps.refl _ _, maskA_rels 0 ht, rfl, hm, Moves.refl hB⟩
section
variable {es l : List KV} {P R S A : List Int} {G : List Bool} {n : Nat} {H : List Hd}
theorem look_of {es : List KV} (hk : KD es) {e : KV} (he : e ∈ es) : (lookM es [kA e, kB e, kC e]).getD [0, 0] = e.2 := by
  have h3 := hk.1 e he
  have : [kA e, kB e, kC e] = e.1 := by
    unfold kA kB kC
    match e.1, h3 with
    | [a, b, c], _ => rfl
  rw [this, (mem_look hk.2 e).1 he]
  rfl
theorem cc_final (hk : KD es) (hp : ∀ e, e ∈ l ↔ e ∈ es) (hn : l.length ≤ 4096) (x y z : Int) (nn : Bool) (c : Option Nat) (P R S A : List Int) (G : List Bool) (n : Nat) : ∀ (j i : Nat) (a b : Int), i + j = l.length → ((∀ e ∈ l.drop i, [kA e, kB e, kC e] ≠ [x, y, z]) → a = ((lookM es [x, y, z]).getD [0, 0]).headD 0 ∧ b = ((lookM es [x, y, z]).getD [0, 0]).tail.headD 0) →
    Gives_ Try.prog Try.f4 1 ⟨hd Try.f4 2, ccT nn n c l.length .unk .unk (.ptr 5 1 0 0) (.ptr 6 1 0 0) (vi (i : Int)), ccM P R S A G x y z es l (ccR x y z a b) 7⟩ (vb true) ⟨[], 200⟩
  | 0, i, a, b, hi, hq => by
    obtain ⟨h1, h2⟩ := hq (by rw [List.drop_of_length_le (by omega)]; simp)
    have h := cc_3e es l P R S A G nn n c x y z (i : Int) a b
    rw [← h1, ← h2, beq_self_eq_true, beq_self_eq_true, hk.keys, decide_eq_false (show ¬ (i : Int) < Int.ofNat l.length by show ¬ (i : Int) < (l.length : Int); omega)] at h
    exact HO_ret (hE_ccH es l) mixedP rfl h rfl
  | j + 1, i, a, b, hi, hq => by
    have hlt : i < l.length := by omega
    have hli : (i : Int) < Int.ofNat l.length := by show (i : Int) < (l.length : Int); omega
    have eA : ∀ f : KV → Int, (l.map f).length = l.length := fun f => List.length_map ..
    cases ht : (bif (bif (kA l[i] == x) then kB l[i] == y else false) then kC l[i] == z else false) with
    | true =>
      have e : [kA l[i], kB l[i], kC l[i]] = [x, y, z] := by
        rw [Bool.cond_eq_ite, Bool.cond_eq_ite] at ht
        by_cases h1 : kA l[i] = x
        · by_cases h2 : kB l[i] = y
          · by_cases h3 : kC l[i] = z
            · rw [h1, h2, h3]
            · simp [h1, h2, h3] at ht
          · simp [h1, h2] at ht
        · simp [h1] at ht
      have h := cc_3y es l P R S A G nn n c x y z (i : Int) a b
      rw [eA, eA, eA, eA, eA, mapD kA hlt, mapD kB hlt, mapD kC hlt, mapD kD hlt, mapD kE hlt, ht, iz_nat, Int.toNat_natCast, decide_eq_true hli, decide_eq_true (show 0 ≤ (i : Int) by omega), decide_eq_true hlt, Bool.or_true, Bool.or_true, up1_nat (by omega)] at h
      have g := cc_final hk hp hn x y z nn c P R S A G n j (i + 1) (kD l[i]) (kE l[i]) (by omega) (fun _ => by
        rw [← e, look_of hk ((hp _).1 (List.getElem_mem hlt))]
        exact ⟨rfl, rfl⟩)
      exact Goes.gives ((HO_head (hE_cc es l) mixedP rfl h rfl).trans (Goes.ren (P := Try.prog) (B := 1) (σ := [(0, 0), (1, 1), (2, 2), (3, 3), (4, 4), (5, 5), (6, 6)]) (nx := 7) rfl)) g
    | false =>
      have e : [kA l[i], kB l[i], kC l[i]] ≠ [x, y, z] := fun e => by
        simp only [List.cons.injEq, and_true] at e
        rw [e.1, e.2.1, e.2.2] at ht
        simp at ht
      have h := cc_3n es l P R S A G nn n c x y z (i : Int) a b
      rw [eA, eA, eA, mapD kA hlt, mapD kB hlt, mapD kC hlt, ht, iz_nat, Int.toNat_natCast, decide_eq_true hli, decide_eq_true (show 0 ≤ (i : Int) by omega), decide_eq_true hlt, Bool.or_true, Bool.or_true, up1_nat (by omega)] at h
      have g := cc_final hk hp hn x y z nn c P R S A G n j (i + 1) a b (by omega) (fun hd => hq (by
        rw [List.drop_eq_getElem_cons hlt]
        intro e' he'
        rcases List.mem_cons.1 he' with rfl | he'
        · exact e
        · exact hd e' he'))
      exact Goes.gives ((HO_head (hE_cc es l) mixedP rfl h rfl).trans (Goes.ren (P := Try.prog) (B := 1) (σ := [(0, 0), (1, 1), (2, 2), (3, 3), (4, 4), (5, 5), (6, 6)]) (nx := 7) rfl)) g
theorem cc_loop2 (hk : KD es) (hp : ∀ e, e ∈ l ↔ e ∈ es) (hl : l.length ≤ 4096) (hn : n ≤ 4096) (hP : n ≤ P.length) (hR : n ≤ R.length) (hS : n ≤ S.length) (hA : n ≤ A.length) (hG : n ≤ G.length) (x y z : Int) (nn : Bool) (c : Option Nat) : ∀ (j i : Nat), i + j = n →
    Gives_ Try.prog Try.f4 1 ⟨hd Try.f4 1, ccT nn n c l.length .unk (vi (i : Int)) .unk .unk .unk, ccM P R S A G x y z es l [] 5⟩ (vb true) ⟨[], 200⟩
  | 0, i, hi => by
    have h := cc_2e es l P R S A G nn n c x y z (i : Int)
    rw [decide_eq_false (show ¬ (i : Int) < Int.ofNat n by show ¬ (i : Int) < (n : Int); omega)] at h
    have g := cc_final hk hp hl x y z nn c P R S A G n l.length 0 0 0 (by omega) (fun hno => by
      rw [List.drop_zero] at hno
      have : lookM es [x, y, z] = none := by
        cases hq : lookM es [x, y, z] with
        | none => rfl
        | some v =>
          have hm := (mem_look hk.2 ([x, y, z], v)).2 hq
          exact absurd rfl (hno _ ((hp _).2 hm))
      rw [this]
      exact ⟨rfl, rfl⟩)
    exact Goes.gives (((HO_head (hE_cc es l) mixedP rfl h rfl).trans (Goes.mask [0, 3, 5, 6, 9, 10, 11])).trans (Goes.ren (P := Try.prog) (B := 1) (σ := [(0, 0), (1, 1), (2, 2), (3, 3), (4, 4), (5, 5), (6, 6)]) (nx := 7) rfl)) g
  | j + 1, i, hi => by
    have h := cc_2 es l P R S A G nn n c x y z (i : Int)
    have hli : (i : Int) < Int.ofNat n := by show (i : Int) < (n : Int); omega
    have hlt : i < n := by omega
    have key : ∀ (p r s a : Int) (g : Bool), (bif (haymowref12_Check_0 p r s a g == 0) then !(s == s && (census_Of_0 p r s a g == haymowref04_Of_0 (haymowref13_Words_0 p r) && (a == a && true))) else false) = false ∧ (!(haymowref12_Check_0 p r s a g == 0) || c_census_Of p r s a g) = true := fun p r s a g => by
      rw [ref_ok]
      by_cases ho : OkH p r s a
      · rw [decide_eq_true ho, (of_cls ho).1, (of_cls ho).2, ref_words ho, cls]
        simp
      · rw [decide_eq_false ho]
        simp
    rw [(key _ _ _ _ _).1, (key _ _ _ _ _).2, iz_nat, Int.toNat_natCast, decide_eq_true hli, decide_eq_true (show 0 ≤ (i : Int) by omega), decide_eq_true hlt, decide_eq_true (show i < P.length by omega), decide_eq_true (show i < R.length by omega), decide_eq_true (show i < S.length by omega), decide_eq_true (show i < A.length by omega), decide_eq_true (show i < G.length by omega), Bool.or_true, up1_nat (by omega)] at h
    exact Goes.gives ((HO_head (hE_cc es l) mixedP rfl h rfl).trans (Goes.ren (P := Try.prog) (B := 1) (σ := [(0, 0), (1, 1), (2, 2), (3, 3), (4, 4)]) (nx := 5) rfl)) (cc_loop2 hk hp hl hn hP hR hS hA hG x y z nn c j (i + 1) (by omega))
theorem cc_loop1 (hk : KD es) (hp : ∀ e, e ∈ l ↔ e ∈ es) (hl : l.length ≤ 4096) (hn : n ≤ 4096) (hP : n ≤ P.length) (hR : n ≤ R.length) (hS : n ≤ S.length) (hA : n ≤ A.length) (hG : n ≤ G.length) (x y z : Int) (nn : Bool) (c : Option Nat) : ∀ (j i : Nat), i + j = l.length →
    Gives_ Try.prog Try.f4 1 ⟨hd Try.f4 0, ccT nn n c l.length (vi (i : Int)) .unk .unk .unk .unk, ccM P R S A G x y z es l [] 5⟩ (vb true) ⟨[], 200⟩
  | 0, i, hi => by
    have h := cc_1e es l P R S A G nn n c x y z (i : Int)
    rw [decide_eq_false (show ¬ (i : Int) < Int.ofNat l.length by show ¬ (i : Int) < (l.length : Int); omega)] at h
    have h2 : Goes Try.prog 1 ⟨hd Try.f4 0, ccT nn n c l.length (vi (i : Int)) .unk .unk .unk .unk, ccM P R S A G x y z es l [] 5⟩ ⟨hd Try.f4 1, ccT nn n c l.length .unk (vi 0) .unk .unk .unk, ccM P R S A G x y z es l [] 5⟩ :=
      ((HO_head (hE_ccH es l) mixedP rfl h rfl).trans (Goes.mask [0, 3, 5, 6, 8])).trans (Goes.ren (P := Try.prog) (B := 1) (σ := [(0, 0), (1, 1), (2, 2), (3, 3), (4, 4)]) (nx := 5) rfl)
    exact Goes.gives h2 (cc_loop2 hk hp hl hn hP hR hS hA hG x y z nn c n 0 (by omega))
  | j + 1, i, hi => by
    have hlt : i < l.length := by omega
    have hli : (i : Int) < Int.ofNat l.length := by show (i : Int) < (l.length : Int); omega
    have eA : ∀ f : KV → Int, (l.map f).length = l.length := fun f => List.length_map ..
    have h := cc_1 es l P R S A G nn n c x y z (i : Int)
    have hm := (hp _).1 (List.getElem_mem hlt)
    rw [eA, eA, eA, eA, eA, mapD kA hlt, mapD kB hlt, mapD kC hlt, mapD kD hlt, mapD kE hlt, look_of hk hm, hk.keys, iz_nat, Int.toNat_natCast, decide_eq_true hli, decide_eq_true (show 0 ≤ (i : Int) by omega), decide_eq_true hlt, up1_nat (by omega)] at h
    have e1 : ((l[i].2).headD 0 == kD l[i] && ((l[i].2).tail.headD 0 == kE l[i] && true)) = true := by
      unfold kD kE
      rw [beq_self_eq_true, beq_self_eq_true]; rfl
    rw [e1] at h
    exact Goes.gives ((HO_head (hE_ccH es l) mixedP rfl h rfl).trans (Goes.ren (P := Try.prog) (B := 1) (σ := [(0, 0), (1, 1), (2, 2), (3, 3), (4, 4)]) (nx := 5) rfl)) (cc_loop1 hk hp hl hn hP hR hS hA hG x y z nn c j (i + 1) (by omega))
end
theorem cols_tot (f : KV → Int) (l : List KV) (hf : ∀ e ∈ l, 0 ≤ f e ∧ f e ≤ MX) (hl : l.length ≤ 4096) (p : KV → Bool) : toC ((l.filter p).map f) 0 (l.filter p).length 0 = totF p f l 0 := by
  have hfl : (l.filter p).length ≤ l.length := List.length_filter_le ..
  rw [toC_map f _ _ 0 0 (by omega), List.drop_zero, tot_sum p f l 0 hf (by omega) (by unfold MX; omega), tot_sum (pTotal 0) f _ 0 (fun e he => hf e (List.mem_filter.1 he).1) (by omega) (by unfold MX; omega), sumP_filter]
theorem counts23_any (X : Option Addr) (n k : Nat) (cs : List Col) (i : LI) (x y z : Int) (w : World) (hin : InB w X n (.rows cs) i) (hnc : n ≤ k) (hf : Fits n [.i .i64, .i .i64, .i .i64, .i .i64, .b] cs) : Gives 4 #[.slice X n k, .agg #[.int .i64 x, .int .i64 y, .int .i64 z]] w (.bool true) := by
  obtain ⟨_, _, rfl, ⟨P, rfl, h1, _⟩, _, _, rfl, ⟨R, rfl, h2, _⟩, _, _, rfl, ⟨S, rfl, h3, _⟩, _, _, rfl, ⟨Q, rfl, h4, _⟩, _, _, rfl, ⟨G, rfl, h5⟩, rfl⟩ := hf
  have hm : MRel (fun _ => i) ⟨[(0, some ⟨false, false, hdC P R S Q G⟩)], 1⟩ w := mrel_one (hin.ok _ _)
  have hx : AV.rels (fun _ => i) 1 [.sl false 0 5 0 1 n (some k), .agg [vi x, vi y, vi z]] [.slice X n k, .agg #[.int .i64 x, .int .i64 y, .int .i64 z]] := by
    simp only [AV.rels]
    refine ⟨_, _, rfl, hin.arg (ρ := fun _ => i) (by omega) hnc 5 1, _, _, rfl, ?_, rfl⟩
    simp only [AV.rel, AV.rels]
    exact ⟨_, rfl, _, _, rfl, rfl, _, _, rfl, rfl, _, _, rfl, rfl, rfl⟩
  refine gives_true (c := bodyOf Try.f4) (m' := ⟨[], 200⟩) Try.func4 rfl ?_ rfl hm hx
  by_cases hn : 40 < n
  · have he := cc_big [] [] P R S Q G false n (some k) x y z
    rw [decide_eq_true (show (40 : Int) < Int.ofNat n by show (40 : Int) < (n : Int); omega)] at he
    exact FO_ret (hE_cc [] []) mixedP rfl rfl he rfl
  · have hh := of_holds P R S Q n 0 [] [] holds_nil (by simp; omega)
    have hlen := of_len P R S Q n 0 []
    simp only [List.length_nil, Nat.zero_add] at hlen
    rw [List.nil_append] at hh
    generalize hes : ofF P R S Q 0 n [] = es at hh hlen
    have hs := sort_RF hh
    have hr := fun e he => hh.row (by rw [hdI_len]; omega) (e := e) he
    generalize hl : RF (hdI P R S Q 0 n) = l at hs
    have hll : l.length = es.length := by rw [← hs, sortK_len]
    have hp : ∀ e, e ∈ l ↔ e ∈ es := fun e => by rw [← hs]; exact (sortK_perm es).mem_iff
    rw [hs] at hr
    have hD : ∀ e ∈ l, 0 ≤ kD e ∧ kD e ≤ MX := fun e he => (hr e he).2.2.2.1
    have hE : ∀ e ∈ l, 0 ≤ kE e ∧ kE e ≤ MX := fun e he => (hr e he).2.2.2.2.1
    have hl4 : l.length ≤ 4096 := by omega
    have he := cc_in es l P R S Q G false n (some k) x y z
    have eA : ∀ (f : KV → Int) (L : List KV), (L.map f).length = L.length := fun f L => List.length_map ..
    have eF : ∀ p : KV → Bool, (l.filter p).length ≤ 4096 := fun p => Nat.le_trans (List.length_filter_le ..) hl4
    have c0 : ∀ f : KV → Int, (∀ e ∈ l, 0 ≤ f e ∧ f e ≤ MX) → toC (l.map f) 0 l.length 0 = totF (pTotal 0) f l 0 := fun f hf => by
      rw [toC_map f _ _ 0 0 (by omega), List.drop_zero]
    have p0 : ∀ x, someP 0 x = pSite x := fun x => rfl
    have p1 : ∀ x, someP 1 x = pClass x := fun x => rfl
    have p2 : ∀ x, someP 2 x = pOld x := fun x => rfl
    simp only [eA] at he
    rw [hes, hl, hs, decide_eq_true hh.1, c0 kD hD, c0 kE hE, p0, p1, p2, cols_tot kD l hD hl4, cols_tot kE l hE hl4, cols_tot kD l hD hl4, cols_tot kE l hE hl4, cols_tot kD l hD hl4, cols_tot kE l hE hl4] at he
    rw [beq_self_eq_true, beq_self_eq_true, beq_self_eq_true, beq_self_eq_true, beq_self_eq_true, beq_self_eq_true, beq_self_eq_true, beq_self_eq_true] at he
    rw [decide_eq_false (show ¬ (40 : Int) < Int.ofNat n by show ¬ (40 : Int) < (n : Int); omega), Nat.ble_eq_true_of_le (show n ≤ 4096 by omega), Nat.ble_eq_true_of_le (show n ≤ P.length by omega), Nat.ble_eq_true_of_le (show n ≤ R.length by omega), Nat.ble_eq_true_of_le (show n ≤ S.length by omega), Nat.ble_eq_true_of_le (show n ≤ Q.length by omega), Nat.ble_eq_true_of_le (show n ≤ G.length by omega),
      Nat.ble_eq_true_of_le (show es.length ≤ 4096 by omega), Nat.ble_eq_true_of_le hl4, Nat.ble_eq_true_of_le (Nat.le_refl l.length), Nat.ble_eq_true_of_le (eF (pSite x)), Nat.ble_eq_true_of_le (eF (pClass y)), Nat.ble_eq_true_of_le (eF (pOld z)), Nat.ble_eq_true_of_le (Nat.le_refl (l.filter (pSite x)).length), Nat.ble_eq_true_of_le (Nat.le_refl (l.filter (pClass y)).length), Nat.ble_eq_true_of_le (Nat.le_refl (l.filter (pOld z)).length)] at he
    simp only [decide_true] at he
    exact Goes.gives ((FO_head (f := Try.f4) (c := bodyOf Try.f4) (hE_ccH es l) mixedP rfl rfl he rfl).trans (Goes.ren (P := Try.prog) (B := 1) (σ := [(0, 0), (1, 1), (2, 2), (3, 3), (4, 4)]) (nx := 5) rfl)) (cc_loop1 hh.1 hp hl4 (by omega) (by omega) (by omega) (by omega) (by omega) (by omega) x y z false (some k) l.length 0 (by omega))
set_option maxRecDepth 100000 in
theorem censusCounts_lifted (os : Os) (started : os.Started) (H : Type) (enc : TypeId × Value → H) :
    ReturnsInHanded {} Try.checked os 4 .any (Rows.censusCountsSpec.pre6 enc Try.prog Try.f4 Rows.censusCountsRow.domain false) (Rows.censusCountsSpec.post enc Try.prog Try.f4 false true false false) := by
  refine returnsInHanded_of_change (C := Try.checked) Try.own started (by kernel_rfl) Try.func4
    (ChangeSpec.witness6 (enc := enc) (C := Try.checked) false ⟨#[], #[.slice none 0 0, .agg #[.int .i64 0, .int .i64 0, .int .i64 0]], []⟩ 8 (by kernel_rfl) (by kernel_rfl) (by kernel_rfl) (by kernel_rfl)) ?_
  intro W base args ds gs before hval0 hW hcnd hsized
  have hval : ∀ (j : Nat) t v, Try.f4.params[j]? = some t → args[j]? = some v → Value.okWide Try.prog W .any base t v := hval0
  have hW' := hW
  obtain ⟨p, q, hA0, hV, rfl, hfz, hnd⟩ := hW
  have hA : DataW.TrodAll enc Try.prog W 0 (fun _ => true) true Try.f4.params.toList args.toList ds p := hA0
  rw [Try.params4] at hA hval
  obtain ⟨v0, v1, d0, d1, p0, p1, rfl, rfl, rfl, h0, h1⟩ := trodAll_two hA
  obtain ⟨A, n, c, cs, i, rfl, hnc, hc, hf, hin⟩ := open_nrows [.i .i64, .i .i64, .i .i64, .i .i64, .b] Try.underlying22 (show leavesT Try.prog 9 50 = some [3, 3, 3, 3, 4] by kernel_rfl) (by kernel_rfl) (by decide) (by kernel_rfl) (hval 0 _ v0 rfl rfl) h0
  obtain ⟨l1_, rfl, hl1_, hg1_⟩ := open_flat (ls := [3, 3, 3]) Try.underlying31 rfl (by kernel_rfl) (by kernel_rfl) (hval 1 _ v1 rfl rfl) h1
  obtain ⟨c1_0, r1_0, rfl, hr1_0⟩ := list_cons hl1_
  obtain ⟨c1_1, r1_1, rfl, hr1_1⟩ := list_cons hr1_0
  obtain ⟨c1_2, r1_2, rfl, hr1_2⟩ := list_cons hr1_1
  cases list_nil hr1_2
  obtain ⟨x, rfl, wx⟩ := field_int Try.underlying3 (hg1_ 0 _ _ rfl rfl)
  obtain ⟨y, rfl, wy⟩ := field_int Try.underlying3 (hg1_ 1 _ _ rfl rfl)
  obtain ⟨z, rfl, wz⟩ := field_int Try.underlying3 (hg1_ 2 _ _ rfl rfl)
  refine Gives.use (counts23_any A n c cs i x y z W hin hnc hf) fun W' hb => ?_
  exact ⟨_, rfl, law_post Try.laidOut (by kernel_rfl) (by kernel_rfl) Try.underlying4 rfl hW' ⟨rfl, rfl, rfl⟩ hb⟩
theorem censusCounts_holds : Rows.CensusCountsSaid :=
  OpenClaim.holds_of_wide 4 Try.f4 rfl rfl rfl rfl rfl rfl rfl ⟨rfl, rfl, rfl, rfl, rfl⟩ rfl rfl rfl rfl rfl (by kernel_rfl) Try.func4 (by kernel_rfl)
    (of_decide_eq_true (by kernel_rfl)) (by unfold Func.isWrapper; first | (rw [if_pos (by decide +kernel)]; kernel_rfl) | (rw [if_neg (by decide +kernel)]; exact ⟨rfl, rfl⟩))
    (fun os started H enc _ => censusCounts_lifted os started H enc)
end Go.Proofs.Ytbjealobiblabaa
