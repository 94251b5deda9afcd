/-
  The executor: what a function's text reckons to, and why it is so.
-/
import Derived.Deep.AppendSrc
import Derived.Deep.Upon
import Derived.Lib.UnsafeStr
import Derived.MapKept
import Derived.WideKeyRuns
import Derived.Scope
import Derived.StillTail
import Derived.Test.YtmjpikkloofakaaMa
namespace Go.Proofs.Ytmjpikkloofakaa
open Go Go.RowKit
def byte1 (x : Int) : ByteArray := ⟨#[UInt8.ofNat x.toNat]⟩
/-- Bytes that are put behind. -/
def newsB (P : Program) (m : MS) (tx : TypeId) (b : AV) : Option (ByteArray × Nat × List Bool) := match P.underlying tx, b with
  | some .string, .val (.string s) => some (s, lenB s, [])
  | some (.slice _), .sl _ l 1 r 1 1 _ => match look m.bl l with
    | some ⟨_, _, .cells cs⟩ => match cs[r]? with
      | some (.val (.int .u8 x)) => some (byte1 x, 1, [decide (0 ≤ x), decide (x ≤ 255)])
      | _ => none
    | _ => none
  | _, _ => none
def appendB (P : Program) (m : MS) (t tx : TypeId) (a b : AV) : Option (AV × MS × List Bool) := match P.underlying t with
  | some (.slice e) => match P.underlying e with
    | some (.int .u8) => match P.info? e with
      | some i => match i.zero with
        | some zv => match Nat.beq zv.cells.size 1 && (Nat.beq i.size 1 && Nat.blt 0 i.bytes) with
          | true => match newsB P m tx b with
            | some (s, k, bs) => match a with
              | .val (.slice none 0 0) => some (.sl true m.nx 1 0 1 k none, ⟨(m.nx, some ⟨true, false, .obj (.trow e s)⟩) :: m.bl, m.nx + 1⟩, decide (0 < k) :: decide (k * i.bytes ≤ 140737488355328) :: bs)
              | .sl true l 1 0 1 n none => match look m.bl l with
                | some ⟨true, false, .obj (.trow e' s0)⟩ => match Nat.beq e e' with
                  | true => some (.sl true m.nx 1 0 1 (n + k) none, ⟨(m.nx, some ⟨true, false, .obj (.trow e (catB s0 s))⟩) :: upd m.bl l none, m.nx + 1⟩, Nat.beq n (lenB s0) :: decide (0 < n) :: decide ((n + k) * i.bytes ≤ 140737488355328) :: bs)
                  | false => none
                | _ => none
              | _ => none
            | none => none
          | false => none
        | none => none
      | none => none
    | _ => none
  | _ => none
/-- Numbers that are put behind. -/
def newsC (m : MS) (b : AV) : Option (IntKind × List Int × Nat × List Bool) := match b with
  | .sl _ l 1 r 1 n _ => match look m.bl l with
    | some ⟨_, _, .col (.ints k zs)⟩ => some (k, (zs.drop r).take n, n, [Nat.ble (r + n) zs.length])
    | _ => none
  | _ => none
def appendC (P : Program) (m : MS) (t tx : TypeId) (a b : AV) : Option (AV × MS × List Bool) := match P.underlying t, P.underlying tx with
  | some (.slice e), some (.slice _) => match P.info? e with
    | some i => match i.zero with
      | some zv => match Nat.beq zv.cells.size 1 && (Nat.beq i.size 1 && Nat.blt 0 i.bytes) with
        | true => match newsC m b with
          | some (k, xs, n, bs) => match a with
            | .val (.slice none 0 0) => some (.sl true m.nx 1 0 1 n none, ⟨(m.nx, some ⟨true, true, .col (.ints k xs)⟩) :: m.bl, m.nx + 1⟩, decide (0 < n) :: decide (n * i.bytes ≤ 140737488355328) :: bs)
            | .sl _ _ 1 _ 1 0 (some 0) => some (.sl true m.nx 1 0 1 n none, ⟨(m.nx, some ⟨true, true, .col (.ints k xs)⟩) :: m.bl, m.nx + 1⟩, decide (0 < n) :: decide (n * i.bytes ≤ 140737488355328) :: bs)
            | .sl true l 1 0 1 n0 none => match look m.bl l with
              | some ⟨true, true, .col (.ints k0 zs)⟩ => match decide (k0 = k) with
                | true => some (.sl true m.nx 1 0 1 (n0 + n) none, ⟨(m.nx, some ⟨true, true, .col (.ints k (zs.take n0 ++ xs))⟩) :: upd m.bl l none, m.nx + 1⟩, Nat.ble n0 zs.length :: decide (0 < n0) :: decide ((n0 + n) * i.bytes ≤ 140737488355328) :: bs)
                | false => none
              | _ => none
            | _ => none
          | none => none
        | false => none
      | none => none
    | none => none
  | _, _ => none
/-- unsafe.SliceData of a row of bytes, or of nothing. -/
def dataA (m : MS) (a : AV) : Option (AV × List Bool) := match a with
  | .val (.slice none 0 0) => some (.val (.pointer none), [])
  | .sl true l 1 0 1 n none => match look m.bl l with
    | some ⟨true, false, .obj (.trow _ _)⟩ => some (.ptr l 1 0 0, [decide (0 < n)])
    | _ => none
  | _ => none
/-- unsafe.String: the row is not written from then on, and no more seen. -/
def ustrA (P : Program) (m : MS) (pt : TypeId) (p n : AV) : Option (AV × Option MS × List Bool) := match n with
  | .val (.int .i64 k) => match p with
    | .val (.pointer none) => match decide (k = 0) with
      | true => some (.val (.string ⟨#[]⟩), none, [])
      | false => none
    | .ptr l 1 0 0 => match look m.bl l with
      | some ⟨true, false, .obj (.trow e s)⟩ => match P.underlying pt with
        | some (.pointer e') => match Nat.beq e e' with
          | true => match P.info? e with
            | some i => match Nat.beq i.size 1 with
              | true => some (.val (.string s), some ⟨upd m.bl l none, m.nx⟩, [decide (k = (lenB s : Int)), decide (0 < k), decide (k ≤ 9223372036854775807)])
              | false => none
            | none => none
          | false => none
        | _ => none
      | _ => none
    | _ => none
  | _ => none
/-- A slice of slices. -/
def isNest (m : MS) (a : AV) : Bool := match a with
  | .sl _ l _ _ _ _ _ => match look m.bl l with
    | some ⟨_, _, .obj (.nest _ _)⟩ => true
    | _ => false
  | _ => false
def appendAny (P : Program) (m : MS) (t tx : TypeId) (a b : AV) : Option (AV × MS × List Bool) := match appendB P m t tx a b with
  | some r => some r
  | none => match Nat.beq t tx with
    | true => match appendN P m t a b with
      | some r => some r
      | none => match isNest m a with
        | true => none
        | false => match appendA P m t a b with
          | some r => some r
          | none => appendC P m t tx a b
    | false => none
def appendNil (P : Program) (t tx : TypeId) (a b : AV) : Option AV := match Nat.beq t tx with
  | true => appendZ P t a b
  | false => none
section
variable {P : Program} {ρ : Rho} {m : MS} {w : World}
theorem run_append_src (t tx ty e e' : TypeId) (i : TypeInfo) (ht : P.underlying t = some (.slice e)) (hi : P.info? e = some i)
    (g sLen sCap : Nat) (cur : Array Value) (hg : w.heap[g]? = some (.cells cur e' (0, 0))) (x : Value) (n : Nat) (news : List Value) (hs : Src P i.size tx x n news w)
    (hroom : sLen + n ≤ sCap) (hfit : sLen * i.size + news.length ≤ cur.size) :
    (Builtin.append_ #[t, tx] ty #[.slice (some ⟨g, 0, none⟩) sLen sCap, x]).run P w =
      .ok (.slice (some ⟨g, 0, none⟩) (sLen + n) sCap) (w.setRow g (cur.toList.take (sLen * i.size) ++ news ++ cur.toList.drop (sLen * i.size + news.length)).toArray) := by
  have hst := run_storeCells_at P g (sLen * i.size) e' news 0 cur w hg (by simpa using hfit) hs.one
  simp only [Nat.add_zero] at hst
  rcases hs.kind with ⟨e', hk⟩ | hk <;> simp [Builtin.append_, run_underlying ht, run_underlying hk, sizeOf, typeInfo, hi, hs.len, hroom, hs.cells, Addr.add_lit, hst]
/-- A new row of bytes. -/
theorem fresh_trow {e : TypeId} {arr : Array Value} {s : ByteArray} {n c : Nat} {bl' : List (Nat × Option ABlk)} (hm : MRel ρ m w) (hr : ∀ (j : Nat) (x : UInt8), s.data.toList[j]? = some x → arr[j]? = some (.int .u8 x.toNat)) (hsz : c ≤ arr.size) (hn : n ≤ c) (hbl : ∀ l b, look bl' l = some b → look m.bl l = some b) :
    ∃ ρ', AV.rel ρ' (m.nx + 1) (.sl true m.nx 1 0 1 n none) (.slice (some ⟨w.heap.size, 0, none⟩) n c) ∧ MRel ρ' ⟨(m.nx, some ⟨true, false, .obj (.trow e s)⟩) :: bl', m.nx + 1⟩ (w.drew.alloc (.cells arr e)) ∧ Moves m.nx ρ ρ' m ⟨(m.nx, some ⟨true, false, .obj (.trow e s)⟩) :: bl', m.nx + 1⟩ w (w.drew.alloc (.cells arr e)) := by
  obtain ⟨h1, h2⟩ := hm.drew.allocT (b := ⟨true, false, .obj (.trow e s)⟩) (cs := arr) (t := e) (cap := arr.size) (fun r c a ha => by cases c <;> (simp only [Cont.at] at ha; cases ha)) (fun h => by cases h) (fun q hq => by
    cases hq
    exact ⟨rfl, arr, by show (w.heap.push (.cells arr e))[w.heap.size]? = _; simp, Nat.le_refl _, hr⟩)
  refine ⟨_, ?_, h1.less (Nat.le_refl _) (look_sub hbl), (Moves.drew (Nat.le_refl _)).trans ⟨h2.ext, h2.nx, h2.os, h2.tape, h2.output, h2.size, h2.keep, fun g ⟨l, b, g1, g2, g3⟩ => h2.fresh g ⟨l, b, look_sub hbl l b g1, g2, g3⟩⟩⟩
  simp only [AV.rel, Rho.new, if_true]
  exact ⟨Nat.lt_succ_self _, _, c, rfl, hn, fun _ => by simp, fun _ => rfl, by omega⟩
theorem byteCells_byte1 {x : Int} (h0 : 0 ≤ x) (h1 : x ≤ 255) : Go.byteCells (byte1 x) = [.int .u8 x] := by
  simp only [Go.byteCells, byte1, List.map_cons, List.map_nil]
  congr 2
  have : (UInt8.ofNat x.toNat).toNat = x.toNat := by
    rw [UInt8.toNat_ofNat']
    omega
  rw [this]
  omega
theorem lenB_byteCells (s : ByteArray) : (Go.byteCells s).length = lenB s := by
  unfold Go.byteCells lenB
  rw [List.length_map]
theorem newsB_ok {tx : TypeId} {b : AV} {s : ByteArray} {k : Nat} {bs : List Bool} {y : Value} (h : newsB P m tx b = some (s, k, bs)) (hm : MRel ρ m w) (hy : AV.rel ρ m.nx b y) (hbs : bs.all id = true) : Src P 1 tx y k (Go.byteCells s) w ∧ k = lenB s := by
  unfold newsB at h
  split at h
  · rename_i s' hu
    cases h
    simp only [AV.rel] at hy
    subst hy
    refine ⟨?_, rfl⟩
    have := Src.ofString (P := P) w hu s
    rw [lenB_eq]
    exact this
  · rename_i e' nn l r cap hu
    split at h <;> try cases h
    rename_i wr op cs hl
    split at h <;> try cases h
    rename_i x hc
    simp only [List.all_cons, List.all_nil, id, Bool.and_eq_true, Bool.and_true, decide_eq_true_eq] at hbs
    simp only [AV.rel] at hy
    obtain ⟨_, A, c, rfl, _, hA, _⟩ := hy
    rw [hA (by omega)]
    obtain ⟨_, z, hz1, hz2⟩ := (hm.blk l _ hl).2.rel r 0 (.val (.int .u8 x)) (by simp only [Cont.at, hc])
    simp only [AV.rel] at hz2
    subst hz2
    rw [byteCells_byte1 hbs.1 hbs.2]
    refine ⟨Src.ofSlice (P := P) w hu _ 1 c [.int .u8 x] rfl (fun j u hj => ?_) (fun u hu => by simp at hu; subst hu; rfl), rfl⟩
    match j, hj with
    | 0, hj =>
      simp at hj
      subst hj
      rw [add_none]
      simpa [Cont.width] using hz1
    | j + 1, hj => simp at hj
  · cases h
theorem byteCells_cat (s t : ByteArray) : Go.byteCells (catB s t) = Go.byteCells s ++ Go.byteCells t := by
  unfold Go.byteCells catB
  simp
theorem byteCells_at {s : ByteArray} {j : Nat} {x : UInt8} (h : s.data.toList[j]? = some x) : (Go.byteCells s)[j]? = some (.int .u8 x.toNat) := by
  unfold Go.byteCells
  rw [List.getElem?_map, h]
  rfl
set_option maxHeartbeats 800000 in
theorem appendB_ok {t tx ty : TypeId} {a b v : AV} {m' : MS} {bs : List Bool} {x y : Value} (h : appendB P m t tx a b = some (v, m', bs)) (hm : MRel ρ m w) (hx : AV.rel ρ m.nx a x) (hy : AV.rel ρ m.nx b y) (hbs : bs.all id = true) : MemOk P (Builtin.append_ #[t, tx] ty #[x, y]) ρ m w v m' := by
  unfold appendB at h
  split at h <;> try cases h
  rename_i e hu
  split at h <;> try cases h
  split at h <;> try cases h
  rename_i i hi
  split at h <;> try cases h
  rename_i zv hz
  split at h <;> try cases h
  rename_i hck
  simp only [Bool.and_eq_true, Nat.blt_eq] at hck
  obtain ⟨hzs, his, hby⟩ := hck
  have hzs := Nat.eq_of_beq_eq_true hzs
  have his := Nat.eq_of_beq_eq_true his
  split at h <;> try cases h
  rename_i s k bs' hnews
  split at h
  · -- nil
    cases h
    obtain ⟨hb0, hbs⟩ := all_cons hbs
    obtain ⟨hb1, hb2⟩ := all_cons hbs
    obtain ⟨hsrc, hk⟩ := newsB_ok hnews hm hy hb2
    have hb0 : 0 < k := by simpa using hb0
    have hb1 : k * i.bytes ≤ 140737488355328 := by simpa using hb1
    have hcnt : k ≤ k * i.bytes := Nat.le_mul_of_pos_right _ hby
    simp only [AV.rel] at hx
    subst hx
    rw [← his] at hsrc
    have hr := run_append_grow_src (P := P) w t tx ty e i zv hu hi hz none 0 0 [] (by rw [his]; exact run_firstCells_none w.drew 1 0 0 0) y k (Go.byteCells s) hsrc (by omega) (by omega) (by rw [Nat.zero_add]; exact growslice_fits (by omega) hb1)
    simp only [Nat.zero_add, List.nil_append] at hr
    have hge := grownCap_ge w k 0 e
    have hlen : (Go.byteCells s).length = k := by rw [lenB_byteCells, hk]
    obtain ⟨ρ', e1, e2, e3⟩ := fresh_trow (e := e) (s := s) (n := k) (c := grownCap w k 0 e) (bl' := m.bl) (arr := (Go.byteCells s).toArray ++ Builtin.zeroCells zv.cells (grownCap w k 0 e - k)) hm (fun j x hj => by
      have := byteCells_at hj
      rw [Array.getElem?_append_left (by have := (List.getElem?_eq_some_iff.1 this).1; simpa using this)]
      simpa using this) (by
      rw [Array.size_append, size_zeroCells, hzs]
      simp only [List.size_toArray, hlen]
      omega) hge (fun _ _ h => h)
    exact ⟨ρ', _, _, hr, e1, e2, e3⟩
  · -- its own
    rename_i l n
    split at h <;> try cases h
    rename_i e' s0 hlk
    split at h <;> try cases h
    rename_i hee
    have hee := Nat.eq_of_beq_eq_true hee
    subst hee
    obtain ⟨hbn, hbs⟩ := all_cons hbs
    obtain ⟨hb0, hbs⟩ := all_cons hbs
    obtain ⟨hb1, hb2⟩ := all_cons hbs
    obtain ⟨hsrc, hk⟩ := newsB_ok hnews hm hy hb2
    have hbn : n = lenB s0 := Nat.eq_of_beq_eq_true hbn
    have hb0 : 0 < n := by simpa using hb0
    have hb1 : (n + k) * i.bytes ≤ 140737488355328 := by simpa using hb1
    have hcnt : n + k ≤ (n + k) * i.bytes := Nat.le_mul_of_pos_right _ hby
    simp only [AV.rel] at hx
    obtain ⟨hlx, A, c, rfl, hnc, hA, _, hcap⟩ := hx
    have hA := hA hb0
    subst hA
    obtain ⟨hlt, hok⟩ := hm.blk l _ hlk
    obtain ⟨ho, cur, hg, hcs, hcur⟩ := hok.obj _ rfl
    have hcap : c ≤ (ρ l).cap := by simpa using hcap
    have ea : (⟨(ρ l).b, (ρ l).o + 0 * 1, none⟩ : Addr) = ⟨(ρ l).b, 0, none⟩ := by rw [ho]
    rw [ea]
    rw [← his] at hsrc
    have hlen : (Go.byteCells s).length = k := by rw [lenB_byteCells, hk]
    have hlen0 : (Go.byteCells s0).length = n := by rw [lenB_byteCells, hbn]
    have hold : ∀ j u, (Go.byteCells s0)[j]? = some u → cur[j]? = some u := fun j u hj => by
      unfold Go.byteCells at hj
      rw [List.getElem?_map] at hj
      cases hd : s0.data.toList[j]? with
      | none => rw [hd] at hj; cases hj
      | some x => rw [hd] at hj; cases hj; exact hcur j x hd
    by_cases hroom : n + k ≤ c
    · have hr := run_append_src (P := P) (w := w) t tx ty e e i hu hi (ρ l).b n c cur hg y k (Go.byteCells s) hsrc hroom (by rw [his, hlen]; omega)
      simp only [his, Nat.mul_one, hlen] at hr
      have hrow := setRow_heap w (ρ l).b cur (cur.toList.take n ++ Go.byteCells s ++ cur.toList.drop (n + k)).toArray e (0, 0) hg
      have hl2 : (cur.toList.take n ++ Go.byteCells s ++ cur.toList.drop (n + k)).length = cur.size := by
        simp only [List.length_append, List.length_take, List.length_drop, Array.length_toList, hlen]
        omega
      obtain ⟨e1, e2⟩ := MRel.turnG (bn := ⟨true, false, .obj (.trow e (catB s0 s))⟩) rfl (w' := w.setRow (ρ l).b (cur.toList.take n ++ Go.byteCells s ++ cur.toList.drop (n + k)).toArray) hm hlk rfl (by simp [World.setRow]) rfl rfl ⟨rfl, Nat.le_refl _⟩ (fun g hg => setRow_other w _ g _ hg)
        ⟨.inl (by
            rcases hok.lt with h | h
            · simpa [World.setRow] using h
            · exact absurd h (wr_not_void rfl)), (fun r c a ha => by cases c <;> (simp only [Cont.at] at ha; cases ha)), (fun _ j => by simp only [World.frozen?, hrow]; simp), (fun h => by cases h), fun q hq => by
          cases hq
          refine ⟨ho, _, hrow, by rw [List.size_toArray, hl2]; exact hcs, fun j x hj => ?_⟩
          have h1 := byteCells_at hj
          rw [byteCells_cat] at h1
          simp only [List.append_assoc, List.getElem?_toArray]
          by_cases hjn : j < n
          · rw [List.getElem?_append_left (by omega)] at h1
            rw [List.getElem?_append_left (by simp; omega), List.getElem?_take_of_lt hjn]
            simpa using hold j _ h1
          · rw [List.getElem?_append_right (by omega), hlen0] at h1
            rw [List.getElem?_append_right (by simp; omega)]
            simp only [List.length_take, Array.length_toList, Nat.min_eq_left (show n ≤ cur.size by omega)]
            rw [List.getElem?_append_left (by have := (List.getElem?_eq_some_iff.1 h1).1; exact this)]
            exact h1⟩
      refine ⟨_, _, _, hr, ?_, e1, e2⟩
      simp only [AV.rel, Rho.new, if_true]
      exact ⟨Nat.lt_succ_self _, _, c, rfl, hroom, fun _ => by rw [ho], fun _ => rfl, by omega⟩
    · have hfc : (Builtin.firstCells i.size n (.slice (some ⟨(ρ l).b, 0, none⟩) n c)).run P w.drew = .ok (Go.byteCells s0).toArray w.drew :=
        run_firstCells_some (P := P) w.drew i.size n ⟨(ρ l).b, 0, none⟩ n c (Go.byteCells s0) (by rw [his, hlen0, Nat.mul_one]) (fun j u hj => by
          rw [add_none, Nat.zero_add]
          have := hold j u hj
          simp only [World.cell?]
          rw [show w.drew.heap = w.heap from rfl, hg]
          exact this)
      have hr := run_append_grow_src (P := P) w t tx ty e i zv hu hi hz (some ⟨(ρ l).b, 0, none⟩) n c (Go.byteCells s0) hfc y k (Go.byteCells s) hsrc (by omega) (by omega) (growslice_fits (by omega) hb1)
      have hge := grownCap_ge w (n + k) c e
      obtain ⟨ρ', e1, e2, e3⟩ := fresh_trow (e := e) (s := catB s0 s) (n := n + k) (c := grownCap w (n + k) c e) (bl' := upd m.bl l none) (arr := (Go.byteCells s0 ++ Go.byteCells s).toArray ++ Builtin.zeroCells zv.cells (grownCap w (n + k) c e - (n + k))) hm (fun j x hj => by
        have := byteCells_at hj
        rw [byteCells_cat] at this
        rw [Array.getElem?_append_left (by have := (List.getElem?_eq_some_iff.1 this).1; simpa using this)]
        simpa using this) (by
        rw [Array.size_append, size_zeroCells, hzs]
        simp only [List.size_toArray, List.length_append, hlen, hlen0]
        omega) hge upd_sub
      exact ⟨ρ', _, _, hr, e1, e2, e3⟩
  · cases h
theorem newsC_ok {tx e' : TypeId} {b : AV} {k : IntKind} {xs : List Int} {n : Nat} {bs : List Bool} {y : Value} (hu : P.underlying tx = some (.slice e')) (h : newsC m b = some (k, xs, n, bs)) (h0 : 0 < n) (hm : MRel ρ m w) (hy : AV.rel ρ m.nx b y) (hbs : bs.all id = true) : Src P 1 tx y n (xs.map (Value.int k)) w ∧ xs.length = n := by
  unfold newsC at h
  split at h
  · rename_i nn l r n' cap
    split at h <;> try cases h
    rename_i wr op zs hl
    simp only [List.all_cons, List.all_nil, id, Bool.and_true] at hbs
    have hbs := Nat.le_of_ble_eq_true hbs
    simp only [AV.rel] at hy
    obtain ⟨_, A, c, rfl, _, hA, _⟩ := hy
    rw [hA h0]
    have hlen : ((zs.drop r).take n).length = n := by simp; omega
    refine ⟨Src.ofSlice (P := P) w hu _ n c _ (by rw [List.length_map, hlen, Nat.mul_one]) (fun j u hj => ?_) (fun u hu => by
      obtain ⟨z, _, rfl⟩ := List.mem_map.1 hu; rfl), hlen⟩
    have hjn : j < n := by
      have := (List.getElem?_eq_some_iff.1 hj).1
      rw [List.length_map, hlen] at this
      exact this
    rw [List.getElem?_map, List.getElem?_take_of_lt hjn, List.getElem?_drop] at hj
    have hlt : r + j < zs.length := by omega
    rw [List.getElem?_eq_getElem hlt] at hj
    cases hj
    obtain ⟨_, z, hz1, hz2⟩ := (hm.blk l _ hl).2.rel (r + j) 0 (.val (.int k (zs.getD (r + j) 0))) (by simp only [Cont.at, Col.at, decide_eq_true hlt])
    simp only [AV.rel] at hz2
    subst hz2
    rw [add_none]
    rw [List.getD_eq_getElem?_getD, List.getElem?_eq_getElem hlt] at hz1
    simpa [Cont.width, Nat.add_assoc] using hz1
  · cases h
theorem getD_map_get {k : IntKind} {zs : List Int} {r : Nat} (h : r < zs.length) : (zs.map (Value.int k))[r]? = some (.int k (zs.getD r 0)) := by
  rw [List.getElem?_map, List.getD_eq_getElem?_getD, List.getElem?_eq_getElem h]
  rfl
theorem col_rel {k : IntKind} {zs : List Int} {nx : Nat} {cell : Nat → Option Value} (h : ∀ j, j < zs.length → cell j = some (.int k (zs.getD j 0))) : (Cont.col (.ints k zs)).rel ρ nx cell := fun r c a ha => by
  cases c <;> simp only [Cont.at] at ha <;> try cases ha
  simp only [Col.at, Option.some.injEq, Prod.mk.injEq, decide_eq_true_eq] at ha
  obtain ⟨rfl, hlt⟩ := ha
  exact ⟨by simp [Cont.width], _, by simpa [Cont.width] using h r hlt, by simp [AV.rel]⟩
set_option maxHeartbeats 800000 in
theorem appendC_ok {t tx ty : TypeId} {a b v : AV} {m' : MS} {bs : List Bool} {x y : Value} (h : appendC P m t tx a b = some (v, m', bs)) (hm : MRel ρ m w) (hx : AV.rel ρ m.nx a x) (hy : AV.rel ρ m.nx b y) (hbs : bs.all id = true) : MemOk P (Builtin.append_ #[t, tx] ty #[x, y]) ρ m w v m' := by
  unfold appendC at h
  split at h <;> try cases h
  rename_i e ex hu hux
  split at h <;> try cases h
  rename_i i hi
  split at h <;> try cases h
  rename_i zv hz
  split at h <;> try cases h
  rename_i hck
  simp only [Bool.and_eq_true, Nat.blt_eq] at hck
  obtain ⟨hzs, his, hby⟩ := hck
  have hzs := Nat.eq_of_beq_eq_true hzs
  have his := Nat.eq_of_beq_eq_true his
  split at h <;> try cases h
  rename_i k xs n bs' hnews
  -- a new row, of nothing before
  have fresh : ∀ (base : Option Addr), decide (0 < n) = true → decide (n * i.bytes ≤ 140737488355328) = true → bs'.all id = true →
      MemOk P (Builtin.append_ #[t, tx] ty #[.slice base 0 0, y]) ρ m w (.sl true m.nx 1 0 1 n none) ⟨(m.nx, some ⟨true, true, .col (.ints k xs)⟩) :: m.bl, m.nx + 1⟩ := fun base hb0 hb1 hb2 => by
    have hb0 : 0 < n := by simpa using hb0
    have hb1 : n * i.bytes ≤ 140737488355328 := by simpa using hb1
    obtain ⟨hsrc, hxl⟩ := newsC_ok hux hnews hb0 hm hy hb2
    have hcnt : n ≤ n * i.bytes := Nat.le_mul_of_pos_right _ hby
    rw [← his] at hsrc
    have hfc : (Builtin.firstCells i.size 0 (.slice base 0 0)).run P w.drew = .ok ([] : List Value).toArray w.drew := by
      cases base with
      | none => rw [his]; exact run_firstCells_none w.drew 1 0 0 0
      | some ad => exact run_firstCells_some (P := P) w.drew i.size 0 ad 0 0 [] (by simp) (fun j u hj => by simp at hj)
    have hr := run_append_grow_src (P := P) w t tx ty e i zv hu hi hz base 0 0 [] hfc y n (xs.map (Value.int k)) hsrc (by omega) (by omega) (by rw [Nat.zero_add]; exact growslice_fits (by omega) hb1)
    simp only [Nat.zero_add, List.nil_append] at hr
    have hge := grownCap_ge w n 0 e
    obtain ⟨ρ', e1, e2, e3⟩ := fresh_drew (e := e) (k := .col (.ints k xs)) (wd := 1) (s := 1) (n := n) (c := grownCap w n 0 e) (bl' := m.bl) (arr := (xs.map (Value.int k)).toArray ++ Builtin.zeroCells zv.cells (grownCap w n 0 e - n)) hm (col_rel fun j hj => by
      rw [Array.getElem?_append_left (by simpa using hj), List.getElem?_toArray]
      exact getD_map_get hj) (by
      rw [Array.size_append, size_zeroCells, hzs]
      simp only [List.size_toArray, List.length_map, hxl]
      omega) hge (fun _ _ h => h) rfl
    exact ⟨ρ', _, _, hr, e1, e2, e3⟩
  split at h
  · cases h
    obtain ⟨hb0, hbs⟩ := all_cons hbs
    obtain ⟨hb1, hb2⟩ := all_cons hbs
    simp only [AV.rel] at hx
    subst hx
    exact fresh none hb0 hb1 hb2
  · cases h
    obtain ⟨hb0, hbs⟩ := all_cons hbs
    obtain ⟨hb1, hb2⟩ := all_cons hbs
    simp only [AV.rel] at hx
    obtain ⟨_, A, c, rfl, _, _, _, hc⟩ := hx
    subst hc
    exact fresh A hb0 hb1 hb2
  · rename_i l n0
    split at h <;> try cases h
    rename_i k0 zs hlk
    split at h <;> try cases h
    rename_i hkk
    have hkk : k0 = k := of_decide_eq_true hkk
    subst hkk
    obtain ⟨hbz, hbs⟩ := all_cons hbs
    obtain ⟨hb0, hbs⟩ := all_cons hbs
    obtain ⟨hb1, hb2⟩ := all_cons hbs
    have hbz : n0 ≤ zs.length := Nat.le_of_ble_eq_true hbz
    have hb0 : 0 < n0 := by simpa using hb0
    have hb1 : (n0 + n) * i.bytes ≤ 140737488355328 := by simpa using hb1
    have hcnt : n0 + n ≤ (n0 + n) * i.bytes := Nat.le_mul_of_pos_right _ hby
    simp only [AV.rel] at hx
    obtain ⟨hlx, A, c, rfl, hnc, hA, _, hcap⟩ := hx
    have hA := hA hb0
    subst hA
    obtain ⟨hlt, hok⟩ := hm.blk l _ hlk
    obtain ⟨_, ho, cur, e', hg, hcs⟩ := hok.room rfl
    have hcap : c ≤ (ρ l).cap := by simpa using hcap
    have ea : (⟨(ρ l).b, (ρ l).o + 0 * 1, none⟩ : Addr) = ⟨(ρ l).b, 0, none⟩ := by rw [ho]
    rw [ea]
    -- the source, also where nothing comes
    obtain ⟨hsrc, hxl⟩ : Src P 1 tx y n (xs.map (Value.int k0)) w ∧ xs.length = n := by
      by_cases hn : 0 < n
      · exact newsC_ok hux hnews hn hm hy hb2
      · have hn0 : n = 0 := by omega
        subst hn0
        unfold newsC at hnews
        split at hnews <;> try cases hnews
        rename_i nn l' r n' cap
        split at hnews <;> try cases hnews
        simp only [List.take_zero, List.map_nil, List.length_nil, and_true]
        simp only [AV.rel] at hy
        obtain ⟨_, A', c', rfl, _⟩ := hy
        cases A' with
        | none => exact ⟨.inl ⟨_, hux⟩, fun _ => rfl, run_firstCells_none w 1 0 0 c', run_firstCells_none w.drew 1 0 0 c', by simp, fun _ h => by cases h⟩
        | some ad => exact Src.ofSlice (P := P) w hux ad 0 c' [] (by simp) (fun j u hj => by simp at hj) (fun u hu => by cases hu)
    rw [← his] at hsrc
    have hlen : (xs.map (Value.int k0)).length = n := by rw [List.length_map, hxl]
    have hold : ∀ j, j < n0 → cur[j]? = some (.int k0 (zs.getD j 0)) := fun j hj => by
      obtain ⟨_, z, hz1, hz2⟩ := hok.rel j 0 (.val (.int k0 (zs.getD j 0))) (by simp only [Cont.at, Col.at, decide_eq_true (show j < zs.length by omega)])
      simp only [AV.rel] at hz2
      subst hz2
      simp only [Cont.width, Nat.mul_one, Nat.add_zero, ho, Nat.zero_add, World.cell?, hg] at hz1
      exact hz1
    have hget : ∀ j, j < (zs.take n0 ++ xs).length → (j < n0 ∧ (zs.take n0 ++ xs).getD j 0 = zs.getD j 0) ∨ (n0 ≤ j ∧ j - n0 < n ∧ (zs.take n0 ++ xs).getD j 0 = xs.getD (j - n0) 0) := fun j hj => by
      rw [List.length_append, List.length_take, Nat.min_eq_left hbz, hxl] at hj
      by_cases hjn : j < n0
      · refine .inl ⟨hjn, ?_⟩
        rw [List.getD_eq_getElem?_getD, List.getElem?_append_left (by simp; omega), List.getElem?_take_of_lt hjn, ← List.getD_eq_getElem?_getD]
      · refine .inr ⟨by omega, by omega, ?_⟩
        rw [List.getD_eq_getElem?_getD, List.getElem?_append_right (by simp; omega), List.length_take, Nat.min_eq_left hbz, ← List.getD_eq_getElem?_getD]
    by_cases hroom : n0 + n ≤ c
    · have hr := run_append_src (P := P) (w := w) t tx ty e e' i hu hi (ρ l).b n0 c cur hg y n (xs.map (Value.int k0)) hsrc hroom (by rw [his, hlen]; omega)
      simp only [his, Nat.mul_one, hlen] at hr
      have hrow := setRow_heap w (ρ l).b cur (cur.toList.take n0 ++ xs.map (Value.int k0) ++ cur.toList.drop (n0 + n)).toArray e' (0, 0) hg
      have hl2 : (cur.toList.take n0 ++ xs.map (Value.int k0) ++ cur.toList.drop (n0 + n)).length = cur.size := by
        simp only [List.length_append, List.length_take, List.length_drop, Array.length_toList, hlen]
        omega
      obtain ⟨e1, e2⟩ := MRel.turnG (bn := ⟨true, true, .col (.ints k0 (zs.take n0 ++ xs))⟩) rfl (w' := w.setRow (ρ l).b (cur.toList.take n0 ++ xs.map (Value.int k0) ++ cur.toList.drop (n0 + n)).toArray) hm hlk rfl (by simp [World.setRow]) rfl rfl ⟨rfl, Nat.le_refl _⟩ (fun g hg => setRow_other w _ g _ hg)
        ⟨.inl (by
            rcases hok.lt with h | h
            · simpa [World.setRow] using h
            · exact absurd h (wr_not_void rfl)), col_rel (fun j hj => by
          simp only [ho, Nat.zero_add, World.cell?, hrow]
          simp only [List.append_assoc, List.getElem?_toArray]
          rcases hget j hj with ⟨h1, h2⟩ | ⟨h1, h2, h3⟩
          · rw [h2, List.getElem?_append_left (by simp; omega), List.getElem?_take_of_lt h1]
            simpa using hold j h1
          · rw [h3, List.getElem?_append_right (by simp; omega)]
            simp only [List.length_take, Array.length_toList, Nat.min_eq_left (show n0 ≤ cur.size by omega)]
            rw [List.getElem?_append_left (by simp; omega)]
            exact getD_map_get (by omega)), (fun _ j => by simp only [World.frozen?, hrow]; simp), (fun _ => ⟨rfl, ho, _, e', hrow, by rw [List.size_toArray, hl2]; exact hcs⟩), fun q hq => by cases hq⟩
      refine ⟨_, _, _, hr, ?_, e1, e2⟩
      simp only [AV.rel, Rho.new, if_true]
      exact ⟨Nat.lt_succ_self _, _, c, rfl, hroom, fun _ => by rw [ho], fun _ => rfl, by omega⟩
    · have hfc : (Builtin.firstCells i.size n0 (.slice (some ⟨(ρ l).b, 0, none⟩) n0 c)).run P w.drew = .ok ((zs.take n0).map (Value.int k0)).toArray w.drew :=
        run_firstCells_some (P := P) w.drew i.size n0 ⟨(ρ l).b, 0, none⟩ n0 c ((zs.take n0).map (Value.int k0)) (by simp [his]; omega) (fun j u hj => by
          have hjl : j < n0 := by have := (List.getElem?_eq_some_iff.1 hj).1; simp at this; omega
          rw [add_none, Nat.zero_add]
          rw [List.getElem?_map, List.getElem?_take_of_lt hjl] at hj
          have hj2 : j < zs.length := by omega
          rw [List.getElem?_eq_getElem hj2] at hj
          cases hj
          simp only [World.cell?]
          rw [show w.drew.heap = w.heap from rfl, hg]
          have := hold j hjl
          rw [List.getD_eq_getElem?_getD, List.getElem?_eq_getElem hj2] at this
          exact this)
      have hr := run_append_grow_src (P := P) w t tx ty e i zv hu hi hz (some ⟨(ρ l).b, 0, none⟩) n0 c ((zs.take n0).map (Value.int k0)) hfc y n (xs.map (Value.int k0)) hsrc (by omega) (by omega) (growslice_fits (by omega) hb1)
      have hge := grownCap_ge w (n0 + n) c e
      obtain ⟨ρ', e1, e2, e3⟩ := fresh_drew (e := e) (k := .col (.ints k0 (zs.take n0 ++ xs))) (wd := 1) (s := 1) (n := n0 + n) (c := grownCap w (n0 + n) c e) (bl' := upd m.bl l none) (arr := ((zs.take n0).map (Value.int k0) ++ xs.map (Value.int k0)).toArray ++ Builtin.zeroCells zv.cells (grownCap w (n0 + n) c e - (n0 + n))) hm (col_rel fun j hj => by
        rw [Array.getElem?_append_left (by simpa using hj), List.getElem?_toArray, ← List.map_append]
        exact getD_map_get hj) (by
        rw [Array.size_append, size_zeroCells, hzs]
        simp only [List.size_toArray, List.length_append, List.length_map, List.length_take, hxl, Nat.min_eq_left hbz]
        omega) hge upd_sub rfl
      exact ⟨ρ', _, _, hr, e1, e2, e3⟩
  · cases h
theorem dataA_ok {a v : AV} {bs : List Bool} {x : Value} (h : dataA m a = some (v, bs)) (hm : MRel ρ m w) (hx : AV.rel ρ m.nx a x) (hbs : bs.all id = true) (ts : Array TypeId) (ty : TypeId) : PureOk P (Builtin.unsafeSliceData_ ts ty #[x]) ρ m.nx w v := by
  unfold dataA at h
  split at h
  · cases h
    simp only [AV.rel] at hx
    subst hx
    exact ⟨_, Lib.run_unsafeSliceData_nil w ts ty 0 0, by simp [AV.rel]⟩
  · rename_i l n
    split at h <;> try cases h
    rename_i e s hlk
    simp only [List.all_cons, List.all_nil, id, Bool.and_true, decide_eq_true_eq] at hbs
    simp only [AV.rel] at hx
    obtain ⟨hlx, A, c, rfl, hnc, hA, _, hcap⟩ := hx
    rw [hA hbs]
    refine ⟨_, Lib.run_unsafeSliceData_row w ts ty _ n c (by omega), ?_⟩
    simp only [AV.rel]
    exact ⟨hlx, by simp⟩
  · cases h
/-- A block of the call's own is no more seen. -/
theorem MRel.gone {l : Nat} {b : ABlk} {w' : World} (h : MRel ρ m w) (hl : look m.bl l = some b) (hw : b.wr = true) (hsz : w.heap.size ≤ w'.heap.size) (hos : w'.os = w.os) (htp : w'.tape = w.tape) (hout : OutLe w w')
    (hoth : ∀ g, g ≠ (ρ l).b → w'.heap[g]? = w.heap[g]?) : MRel ρ ⟨upd m.bl l none, m.nx⟩ w' ∧ Moves m.nx ρ ρ m ⟨upd m.bl l none, m.nx⟩ w w' := by
  refine ⟨⟨fun l' b' hl' => ?_, fun l1 b1 l2 b2 h1 h2 hw1 hne hnv => ?_, fun l1 b1 l2 b2 h1 h2 => h.deep l1 b1 l2 b2 (upd_sub _ _ h1) (upd_sub _ _ h2)⟩, ⟨fun _ _ => rfl, Nat.le_refl _, hos, htp, hout, hsz, fun g _ hn => hoth g fun e => hn ⟨l, b, hl, hw, e.symm⟩, fun g ⟨l', b', h1, h2, h3⟩ => .inl ⟨l', b', upd_sub _ _ h1, h2, h3⟩⟩⟩
  · have hl2 := upd_sub _ _ hl'
    obtain ⟨h1, h2⟩ := h.blk l' b' hl2
    refine ⟨h1, ?_⟩
    have hne : l' ≠ l := fun e => by
      subst e
      rw [look_upd, if_pos rfl] at hl'
      cases hl'
    by_cases hv : b'.void
    · exact ABlk.ok.any hv _
    · exact h2.ext (fun _ _ => rfl) (Nat.le_refl _) hsz (hoth _ (h.apart l b l' b' hl hl2 hw hne hv)) fun hn' g hg => hoth g (fun e' => by rw [e', h.deep l b l' b' hl hl2 hw hn'] at hg; cases hg)
  · exact h.apart l1 b1 l2 b2 (upd_sub _ _ h1) (upd_sub _ _ h2) hw1 hne hnv
theorem ustrA_ok {pt it ty : TypeId} {p n v : AV} {mo : Option MS} {bs : List Bool} {x y : Value} (h : ustrA P m pt p n = some (v, mo, bs)) (hm : MRel ρ m w) (hx : AV.rel ρ m.nx p x) (hy : AV.rel ρ m.nx n y) (hbs : bs.all id = true) :
    ∃ ρ' z w', (Builtin.unsafeString_ #[pt, it] ty #[x, y]).run P w = .ok z w' ∧ AV.rel ρ' (mo.getD m).nx v z ∧ MRel ρ' (mo.getD m) w' ∧ Moves m.nx ρ ρ' m (mo.getD m) w w' := by
  unfold ustrA at h
  split at h <;> try cases h
  rename_i k
  simp only [AV.rel] at hy
  subst hy
  split at h
  · split at h <;> try cases h
    rename_i hk
    have hk : k = 0 := of_decide_eq_true hk
    subst hk
    simp only [AV.rel] at hx
    subst hx
    exact ⟨ρ, _, w, Lib.run_unsafeString_none w pt it ty none, by simp [AV.rel]; rfl, hm, Moves.refl (Nat.le_refl _)⟩
  · rename_i l
    split at h <;> try cases h
    rename_i e s hlk
    split at h <;> try cases h
    rename_i e' hp
    split at h <;> try cases h
    rename_i hee
    have hee := Nat.eq_of_beq_eq_true hee
    subst hee
    split at h <;> try cases h
    rename_i i hi
    split at h <;> try cases h
    rename_i his
    have his := Nat.eq_of_beq_eq_true his
    simp only [List.all_cons, List.all_nil, id, Bool.and_eq_true, Bool.and_true, decide_eq_true_eq] at hbs
    obtain ⟨hk, h0, h63⟩ := hbs
    subst hk
    simp only [AV.rel] at hx
    obtain ⟨hlx, rfl⟩ := hx
    obtain ⟨hlt, hok⟩ := hm.blk l _ hlk
    obtain ⟨ho, cur, hg, hcs, hcur⟩ := hok.obj _ rfl
    have hln : s.data.toList.length = lenB s := rfl
    have hcl : lenB s ≤ cur.size := by
      rcases Nat.lt_or_ge cur.size (lenB s) with hlt2 | hge
      · have h1 : cur.size < s.data.toList.length := hlt2
        have := hcur cur.size (s.data.toList[cur.size]) (by rw [List.getElem?_eq_getElem h1])
        simp at this
      · exact hge
    have hcells : P.cellsOf e = 1 := by simp [Program.cellsOf, hi, his]
    have hr := Lib.run_unsafeString_row (P := P) w pt it ty e hp hcells (ρ l).b cur.size (by simp [World.shape?, hg]) s.data.toList (by
        intro e0
        rw [← hln, e0] at h0
        simp at h0) (by rw [hln]; exact hcl) (by rw [hln]; omega) (fun j x hj => by
      rw [add_none, Nat.zero_add]
      simp only [World.cell?, hg]
      exact hcur j x hj)
    have ea : (⟨(ρ l).b, (ρ l).o + (0 * 1 + 0), none⟩ : Addr) = ⟨(ρ l).b, 0, none⟩ := by rw [ho]
    rw [ea]
    obtain ⟨e1, e2⟩ := hm.gone (w' := w.freeze ⟨(ρ l).b, 0, none⟩ (lenB s)) hlk rfl (by unfold World.freeze; split <;> simp) (by unfold World.freeze; split <;> rfl) (by unfold World.freeze; split <;> rfl) (by unfold World.freeze; split <;> exact ⟨rfl, Nat.le_refl _⟩) (fun g hg' => by
      unfold World.freeze
      split
      · rfl
      · simp only [Array.getElem?_modify]
        rw [if_neg (Ne.symm hg')])
    refine ⟨ρ, _, _, hr, ?_, e1, e2⟩
    simp [AV.rel]
  · cases h
theorem appendAny_ok {t tx ty : TypeId} {a b v : AV} {m' : MS} {bs : List Bool} {x y : Value} (h : appendAny P m t tx a b = some (v, m', bs)) (hm : MRel ρ m w) (hx : AV.rel ρ m.nx a x) (hy : AV.rel ρ m.nx b y) (hbs : bs.all id = true) : MemOk P (Builtin.append_ #[t, tx] ty #[x, y]) ρ m w v m' := by
  unfold appendAny at h
  split at h
  · rename_i r hr
    cases h
    exact appendB_ok hr hm hx hy hbs
  · split at h
    · rename_i he
      have he := Nat.eq_of_beq_eq_true he
      subst he
      split at h
      · rename_i r hr
        cases h
        exact appendN_ok hr hm hx hy hbs
      split at h
      · cases h
      split at h
      · rename_i r hr
        cases h
        exact appendA_ok hr hm hx hy hbs
      · exact appendC_ok h hm hx hy hbs
    · cases h
theorem appendNil_ok {t tx ty : TypeId} {a b v : AV} {x y : Value} (h : appendNil P t tx a b = some v) (hx : AV.rel ρ m.nx a x) (hy : AV.rel ρ m.nx b y) : PureOk P (Builtin.append_ #[t, tx] ty #[x, y]) ρ m.nx w v := by
  unfold appendNil at h
  split at h
  · rename_i he
    have he := Nat.eq_of_beq_eq_true he
    subst he
    exact appendZ_ok h hx hy
  · cases h
end
end Go.Proofs.Ytmjpikkloofakaa

namespace Go.Proofs.Ytmjpikkloofakaa
open Go Go.RowKit
def Col.val : Col → Nat → Value
  | .ints k zs, r => .int k (zs.getD r 0)
  | .bools bs, r => .bool (bs.getD r false)
  | .strs ss, r => .string (ss.getD r ⟨#[]⟩)
def Col.len : Col → Nat
  | .ints _ zs => zs.length
  | .bools bs => bs.length
  | .strs ss => ss.length
theorem Col.at_val (c : Col) (r : Nat) : c.at r = (.val (c.val r), decide (r < c.len)) := by cases c <;> rfl
theorem Col.val_one (c : Col) (r : Nat) : (c.val r).oneCell' = true := by cases c <;> rfl
def Col.part (r n : Nat) : Col → Col
  | .ints k zs => .ints k ((zs.drop r).take n)
  | .bools bs => .bools ((bs.drop r).take n)
  | .strs ss => .strs ((ss.drop r).take n)
theorem part_get {α : Type} {l : List α} {r n j : Nat} {d : α} (hj : j < n) : ((l.drop r).take n).getD j d = l.getD (r + j) d := by
  rw [List.getD_eq_getElem?_getD, List.getElem?_take_of_lt hj, List.getElem?_drop, List.getD_eq_getElem?_getD]
theorem Col.part_val {c : Col} {r n j : Nat} (hj : j < n) : (c.part r n).val j = c.val (r + j) := by
  cases c <;> simp only [Col.part, Col.val, part_get hj]
theorem Col.part_len {c : Col} {r n : Nat} (h : r + n ≤ c.len) : (c.part r n).len = n := by
  cases c <;> simp only [Col.part, Col.len, List.length_take, List.length_drop] at * <;> omega
def Col.cat : Col → Col → Option Col
  | .ints k a, .ints k' b => match decide (k = k') with
    | true => some (.ints k (a ++ b))
    | false => none
  | .bools a, .bools b => some (.bools (a ++ b))
  | .strs a, .strs b => some (.strs (a ++ b))
  | _, _ => none
theorem cat_get {α : Type} {a b : List α} {j : Nat} {d : α} : (a ++ b).getD j d = if j < a.length then a.getD j d else b.getD (j - a.length) d := by
  split
  · rename_i h; rw [List.getD_eq_getElem?_getD, List.getElem?_append_left h, ← List.getD_eq_getElem?_getD]
  · rename_i h; rw [List.getD_eq_getElem?_getD, List.getElem?_append_right (by omega), ← List.getD_eq_getElem?_getD]
theorem Col.cat_ok {a b e : Col} (h : a.cat b = some e) : e.len = a.len + b.len ∧ ∀ j, (j < a.len → e.val j = a.val j) ∧ (a.len ≤ j → e.val j = b.val (j - a.len)) := by
  cases a <;> cases b <;> simp only [Col.cat] at h <;> try cases h
  · split at h
    · rename_i hk
      cases h
      have hk := of_decide_eq_true hk
      subst hk
      exact ⟨by simp [Col.len], fun j => ⟨fun h => by simp only [Col.len] at h; simp only [Col.val, cat_get, if_pos h], fun h => by simp only [Col.len] at h; simp only [Col.val, Col.len, cat_get, if_neg (Nat.not_lt.2 h)]⟩⟩
    · cases h
  · exact ⟨by simp [Col.len], fun j => ⟨fun h => by simp only [Col.len] at h; simp only [Col.val, cat_get, if_pos h], fun h => by simp only [Col.len] at h; simp only [Col.val, Col.len, cat_get, if_neg (Nat.not_lt.2 h)]⟩⟩
  · exact ⟨by simp [Col.len], fun j => ⟨fun h => by simp only [Col.len] at h; simp only [Col.val, cat_get, if_pos h], fun h => by simp only [Col.len] at h; simp only [Col.val, Col.len, cat_get, if_neg (Nat.not_lt.2 h)]⟩⟩
def partR (r n : Nat) : List Col → List Col
  | [] => []
  | c :: l => c.part r n :: partR r n l
def lensR (k : Nat) : List Col → Bool
  | [] => true
  | c :: l => match Nat.ble k c.len with
    | true => lensR k l
    | false => false
def catR : List Col → List Col → Option (List Col)
  | [], [] => some []
  | a :: l, b :: r => match a.cat b, catR l r with
    | some e, some k => some (e :: k)
    | _, _ => none
  | _, _ => none
theorem partR_get {r n : Nat} : ∀ {cs : List Col} {i : Nat}, (partR r n cs)[i]? = (cs[i]?).map (·.part r n)
  | [], i => by simp [partR]
  | c :: l, 0 => by simp [partR]
  | c :: l, i + 1 => by simp [partR, partR_get (cs := l)]
theorem partR_len {r n : Nat} : ∀ (cs : List Col), (partR r n cs).length = cs.length
  | [] => rfl
  | c :: l => by simp [partR, partR_len l]
theorem lensR_get {k : Nat} : ∀ {cs : List Col} {i : Nat} {c : Col}, lensR k cs = true → cs[i]? = some c → k ≤ c.len
  | [], i, c, _, h => by simp at h
  | a :: l, i, c, h, hi => by
    simp only [lensR] at h
    split at h
    · rename_i hk
      cases i with
      | zero => simp at hi; subst hi; exact Nat.le_of_ble_eq_true hk
      | succ i => exact lensR_get h (by simpa using hi)
    · cases h
theorem catR_get : ∀ {a b e : List Col}, catR a b = some e → e.length = a.length ∧ a.length = b.length ∧ ∀ (i : Nat) (c : Col), e[i]? = some c → ∃ x y, a[i]? = some x ∧ b[i]? = some y ∧ x.cat y = some c
  | [], [], e, h => by cases h; exact ⟨rfl, rfl, fun i c hc => by simp at hc⟩
  | [], b :: r, e, h => by cases h
  | a :: l, [], e, h => by cases h
  | a :: l, b :: r, e, h => by
    simp only [catR] at h
    split at h
    · rename_i e1 k h1 h2
      cases h
      obtain ⟨g1, g2, g3⟩ := catR_get h2
      refine ⟨by simp [g1], by simp [g2], fun i c hc => ?_⟩
      cases i with
      | zero => simp at hc; subst hc; exact ⟨a, b, rfl, rfl, h1⟩
      | succ i => obtain ⟨x, y, q1, q2, q3⟩ := g3 i c (by simpa using hc); exact ⟨x, y, by simpa using q1, by simpa using q2, q3⟩
    · cases h
/-- The cells of so many rows. -/
def flatR (cs : List Col) (n : Nat) : List Value := (List.range (n * cs.length)).map fun j => match cs[j % cs.length]? with
  | some c => c.val (j / cs.length)
  | none => undef
theorem flatR_len (cs : List Col) (n : Nat) : (flatR cs n).length = n * cs.length := by simp [flatR]
theorem flatR_get {cs : List Col} {n r i : Nat} {c : Col} (hr : r < n) (hc : cs[i]? = some c) : (flatR cs n)[r * cs.length + i]? = some (c.val r) := by
  have hi : i < cs.length := (List.getElem?_eq_some_iff.1 hc).1
  have h1 : r * cs.length + i < n * cs.length := Nat.lt_of_lt_of_le (Nat.add_lt_add_left hi _) (by rw [← Nat.succ_mul]; exact Nat.mul_le_mul_right _ hr)
  have h2 : (r * cs.length + i) % cs.length = i := by rw [Nat.mul_comm, Nat.mul_add_mod, Nat.mod_eq_of_lt hi]
  have h3 : (r * cs.length + i) / cs.length = r := by rw [Nat.mul_comm, Nat.mul_add_div (by omega), Nat.div_eq_of_lt hi, Nat.add_zero]
  simp only [flatR, List.getElem?_map, List.getElem?_range h1, Option.map_some, h2, h3, hc]
theorem flatR_split {cs : List Col} {n j : Nat} {u : Value} (h : (flatR cs n)[j]? = some u) : ∃ r i c, r < n ∧ cs[i]? = some c ∧ j = r * cs.length + i ∧ u = c.val r := by
  have hj : j < n * cs.length := by have := (List.getElem?_eq_some_iff.1 h).1; rwa [flatR_len] at this
  have hw : 0 < cs.length := by
    rcases Nat.eq_zero_or_pos cs.length with h0 | h0
    · rw [h0] at hj; omega
    · exact h0
  have hi : j % cs.length < cs.length := Nat.mod_lt _ hw
  refine ⟨j / cs.length, j % cs.length, cs[j % cs.length], Nat.div_lt_of_lt_mul (by rw [Nat.mul_comm]; exact hj), List.getElem?_eq_getElem hi, (Nat.div_add_mod' j cs.length).symm, ?_⟩
  simp only [flatR, List.getElem?_map, List.getElem?_range hj, Option.map_some, List.getElem?_eq_getElem hi, Option.some.injEq] at h
  exact h.symm
theorem flatR_one {cs : List Col} {n : Nat} : ∀ u ∈ flatR cs n, u.oneCell' = true := fun u hu => by
  obtain ⟨j, hj⟩ := List.mem_iff_getElem?.1 hu
  obtain ⟨r, i, c, _, _, _, rfl⟩ := flatR_split hj
  exact c.val_one r
theorem rows_rel {ρ : Rho} {nx : Nat} {cs : List Col} {cell : Nat → Option Value} (h : ∀ (r i : Nat) (c : Col), cs[i]? = some c → r < c.len → cell (r * cs.length + i) = some (c.val r)) : (Cont.rows cs).rel ρ nx cell := fun r i a ha => by
  simp only [Cont.at] at ha
  split at ha
  · rename_i c hc
    rw [Col.at_val] at ha
    simp only [Option.some.injEq, Prod.mk.injEq, decide_eq_true_eq] at ha
    obtain ⟨rfl, hr⟩ := ha
    exact ⟨(List.getElem?_eq_some_iff.1 hc).1, _, h r i c hc hr, by simp [AV.rel]⟩
  · cases ha
/-- Rows that are put behind. -/
def newsR (m : MS) (z : Nat) (b : AV) : Option (List Col × Nat × Nat × List Bool) := match b with
  | .sl _ l w r 1 n _ => match look m.bl l with
    | some ⟨_, _, .rows cs⟩ => match Nat.beq cs.length w && Nat.beq w z with
      | true => some (partR r n cs, w, n, [lensR (r + n) cs])
      | false => none
    | _ => none
  | _ => none
def appendR (P : Program) (m : MS) (t tx : TypeId) (a b : AV) : Option (AV × MS × List Bool) := match P.underlying t, P.underlying tx with
  | some (.slice e), some (.slice _) => match P.info? e with
    | some i => match i.zero with
      | some zv => match Nat.beq zv.cells.size i.size && (Nat.blt 0 i.size && Nat.blt 0 i.bytes) with
        | true => match newsR m i.size b with
          | some (cs, w, n, bs) => match a with
            | .val (.slice none 0 0) => some (.sl true m.nx w 0 1 n none, ⟨(m.nx, some ⟨true, true, .rows cs⟩) :: m.bl, m.nx + 1⟩, decide (0 < n) :: decide (n * i.bytes ≤ 140737488355328) :: bs)
            | .sl _ _ _ _ _ 0 (some 0) => some (.sl true m.nx w 0 1 n none, ⟨(m.nx, some ⟨true, true, .rows cs⟩) :: m.bl, m.nx + 1⟩, decide (0 < n) :: decide (n * i.bytes ≤ 140737488355328) :: bs)
            | .sl true l w' 0 1 n0 none => match look m.bl l with
              | some ⟨true, true, .rows zs⟩ => match Nat.beq zs.length w' && Nat.beq w' w with
                | true => match catR (partR 0 n0 zs) cs with
                  | some k => some (.sl true m.nx w 0 1 (n0 + n) none, ⟨(m.nx, some ⟨true, true, .rows k⟩) :: upd m.bl l none, m.nx + 1⟩, decide (0 < n) :: lensR n0 zs :: decide (0 < n0) :: decide ((n0 + n) * i.bytes ≤ 140737488355328) :: bs)
                  | none => none
                | false => none
              | _ => none
            | _ => none
          | none => none
        | false => none
      | none => none
    | none => none
  | _, _ => none
section
variable {P : Program} {ρ : Rho} {m : MS} {w : World}
theorem newsR_ok {tx e' : TypeId} {b : AV} {z wd : Nat} {cs : List Col} {n : Nat} {bs : List Bool} {y : Value} (hu : P.underlying tx = some (.slice e')) (h : newsR m z b = some (cs, wd, n, bs)) (h0 : 0 < n) (hm : MRel ρ m w) (hy : AV.rel ρ m.nx b y) (hbs : bs.all id = true) :
    Src P z tx y n (flatR cs n) w ∧ cs.length = z ∧ wd = z ∧ ∀ (i : Nat) (c : Col), cs[i]? = some c → c.len = n := by
  unfold newsR at h
  split at h
  · rename_i nn l wx r n' cap
    split at h <;> try cases h
    rename_i wr op zs hl
    split at h <;> try cases h
    rename_i hck
    simp only [Bool.and_eq_true] at hck
    have e1 := Nat.eq_of_beq_eq_true hck.1
    have e2 := Nat.eq_of_beq_eq_true hck.2
    subst e2
    subst e1
    simp only [List.all_cons, List.all_nil, id, Bool.and_true] at hbs
    simp only [AV.rel] at hy
    obtain ⟨_, A, c, rfl, _, hA, _⟩ := hy
    rw [hA h0]
    refine ⟨Src.ofSlice (P := P) w hu _ n c _ (by rw [flatR_len, partR_len]) (fun j u hj => ?_) flatR_one, partR_len _, rfl, fun i x hx => ?_⟩
    · obtain ⟨q, i, x, h1, h2, h3, rfl⟩ := flatR_split hj
      rw [partR_get] at h2
      rw [partR_len] at h3
      cases hz : zs[i]? with
      | none => rw [hz] at h2; cases h2
      | some cl =>
        rw [hz] at h2
        cases h2
        have hlt := lensR_get hbs hz
        obtain ⟨_, v, hv1, hv2⟩ := (hm.blk l _ hl).2.rel (r + q) i (.val (cl.val (r + q))) (by simp only [Cont.at, hz, Col.at_val, decide_eq_true (show r + q < cl.len by omega)])
        simp only [AV.rel] at hv2
        subst hv2
        rw [add_none, Col.part_val h1, h3]
        simp only [Cont.width, Nat.add_mul] at hv1
        rw [← hv1]
        congr 2
        omega
    · rw [partR_get] at hx
      cases hz : zs[i]? with
      | none => rw [hz] at hx; cases hx
      | some cl => rw [hz] at hx; cases hx; exact Col.part_len (lensR_get hbs hz)
  · cases h
set_option maxHeartbeats 1600000 in
theorem appendR_ok {t tx ty : TypeId} {a b v : AV} {m' : MS} {bs : List Bool} {x y : Value} (h : appendR P m t tx a b = some (v, m', bs)) (hm : MRel ρ m w) (hx : AV.rel ρ m.nx a x) (hy : AV.rel ρ m.nx b y) (hbs : bs.all id = true) : MemOk P (Builtin.append_ #[t, tx] ty #[x, y]) ρ m w v m' := by
  unfold appendR at h
  split at h <;> try cases h
  rename_i e ex hu hux
  split at h <;> try cases h
  rename_i i hi
  split at h <;> try cases h
  rename_i zv hz
  split at h <;> try cases h
  rename_i hck
  simp only [Bool.and_eq_true, Nat.blt_eq] at hck
  obtain ⟨hzs, his, hby⟩ := hck
  have hzs := Nat.eq_of_beq_eq_true hzs
  split at h <;> try cases h
  rename_i cs wd n bs' hnews
  -- a new row, of nothing before
  have fresh : ∀ (base : Option Addr), decide (0 < n) = true → decide (n * i.bytes ≤ 140737488355328) = true → bs'.all id = true →
      MemOk P (Builtin.append_ #[t, tx] ty #[.slice base 0 0, y]) ρ m w (.sl true m.nx wd 0 1 n none) ⟨(m.nx, some ⟨true, true, .rows cs⟩) :: m.bl, m.nx + 1⟩ := fun base hb0 hb1 hb2 => by
    have hb0 : 0 < n := by simpa using hb0
    have hb1 : n * i.bytes ≤ 140737488355328 := by simpa using hb1
    obtain ⟨hsrc, hcl, hwd, hlen⟩ := newsR_ok hux hnews hb0 hm hy hb2
    subst hwd
    have hcnt : n ≤ n * i.bytes := Nat.le_mul_of_pos_right _ hby
    have hfc : (Builtin.firstCells i.size 0 (.slice base 0 0)).run P w.drew = .ok ([] : List Value).toArray w.drew := by
      cases base with
      | none => exact run_firstCells_none w.drew i.size 0 0 0
      | some ad => exact run_firstCells_some (P := P) w.drew i.size 0 ad 0 0 [] (by simp) (fun j u hj => by simp at hj)
    have hr := run_append_grow_src (P := P) w t tx ty e i zv hu hi hz base 0 0 [] hfc y n _ hsrc (by omega) (by omega) (by rw [Nat.zero_add]; exact growslice_fits (by omega) hb1)
    simp only [Nat.zero_add, List.nil_append] at hr
    have hge := grownCap_ge w n 0 e
    obtain ⟨ρ', e1, e2, e3⟩ := fresh_drew (e := e) (k := .rows cs) (wd := i.size) (s := 1) (n := n) (c := grownCap w n 0 e) (bl' := m.bl) (arr := (flatR cs n).toArray ++ Builtin.zeroCells zv.cells (grownCap w n 0 e - n)) hm (rows_rel fun r j c hc hrc => by
      have hrn : r < n := by rw [hlen j c hc] at hrc; exact hrc
      have hg := flatR_get (n := n) hrn hc
      rw [Array.getElem?_append_left (by have := (List.getElem?_eq_some_iff.1 hg).1; simpa using this), List.getElem?_toArray]
      exact hg) (by
      rw [Array.size_append, size_zeroCells, hzs, Nat.one_mul]
      simp only [List.size_toArray, flatR_len, hcl, ← Nat.add_mul]
      exact Nat.mul_le_mul_right _ (by omega)) hge (fun _ _ h => h) rfl
    exact ⟨ρ', _, _, hr, e1, e2, e3⟩
  split at h
  · cases h
    obtain ⟨hb0, hbs⟩ := all_cons hbs
    obtain ⟨hb1, hb2⟩ := all_cons hbs
    simp only [AV.rel] at hx
    subst hx
    exact fresh none hb0 hb1 hb2
  · cases h
    obtain ⟨hb0, hbs⟩ := all_cons hbs
    obtain ⟨hb1, hb2⟩ := all_cons hbs
    simp only [AV.rel] at hx
    obtain ⟨_, A, c, rfl, _, _, _, hc⟩ := hx
    subst hc
    exact fresh A hb0 hb1 hb2
  · rename_i l w' n0
    split at h <;> try cases h
    rename_i zs hlk
    split at h <;> try cases h
    rename_i hck2
    simp only [Bool.and_eq_true] at hck2
    have ew1 := Nat.eq_of_beq_eq_true hck2.1
    have ew2 := Nat.eq_of_beq_eq_true hck2.2
    split at h <;> try cases h
    rename_i k hcat
    obtain ⟨hb00, hbs⟩ := all_cons hbs
    obtain ⟨hbz, hbs⟩ := all_cons hbs
    obtain ⟨hb0, hbs⟩ := all_cons hbs
    obtain ⟨hb1, hb2⟩ := all_cons hbs
    have hb00 : 0 < n := by simpa using hb00
    have hb0 : 0 < n0 := by simpa using hb0
    have hb1 : (n0 + n) * i.bytes ≤ 140737488355328 := by simpa using hb1
    have hcnt : n0 + n ≤ (n0 + n) * i.bytes := Nat.le_mul_of_pos_right _ hby
    obtain ⟨hsrc, hcl, hwd, hlen⟩ := newsR_ok hux hnews hb00 hm hy hb2
    obtain ⟨hk1, hk2, hk3⟩ := catR_get hcat
    rw [partR_len] at hk1 hk2
    have hzw : zs.length = i.size := by omega
    have hkw : k.length = i.size := by omega
    have hsw : w' = i.size := by omega
    subst hsw
    subst hwd
    simp only [AV.rel] at hx
    obtain ⟨hlx, A, c, rfl, hnc, hA, _, hcap⟩ := hx
    have hA := hA hb0
    subst hA
    obtain ⟨hlt, hok⟩ := hm.blk l _ hlk
    obtain ⟨_, ho, cur, e', hg, hcs⟩ := hok.room rfl
    have hcap : c * i.size ≤ (ρ l).cap := by simpa using hcap
    have ea : (⟨(ρ l).b, (ρ l).o + 0 * i.size, none⟩ : Addr) = ⟨(ρ l).b, 0, none⟩ := by rw [ho, Nat.zero_mul]
    rw [ea]
    have hnl : (flatR cs n).length = n * i.size := by rw [flatR_len, hcl]
    have hncs : n0 * i.size ≤ cur.size := Nat.le_trans (Nat.mul_le_mul_right _ hnc) (Nat.le_trans hcap hcs)
    -- what was there
    have hold : ∀ (r j : Nat) (cl : Col), zs[j]? = some cl → r < n0 → cur[r * i.size + j]? = some (cl.val r) := fun r j cl hz hr => by
      have hlt := lensR_get hbz hz
      obtain ⟨_, v, hv1, hv2⟩ := hok.rel r j (.val (cl.val r)) (by simp only [Cont.at, hz, Col.at_val, decide_eq_true (show r < cl.len by omega)])
      simp only [AV.rel] at hv2
      subst hv2
      simp only [Cont.width, ho, Nat.zero_add, World.cell?, hg, hzw] at hv1
      exact hv1
    have hrow : ∀ (r j : Nat), r < n0 → j < i.size → r * i.size + j < n0 * i.size := fun r j hr hj => Nat.lt_of_lt_of_le (Nat.add_lt_add_left hj _) (by rw [← Nat.succ_mul]; exact Nat.mul_le_mul_right _ hr)
    -- the new block's cells
    have hnew : ∀ (cell : Nat → Option Value), (∀ p, p < n0 * i.size → cell p = cur[p]?) → (∀ p u, (flatR cs n)[p]? = some u → cell (n0 * i.size + p) = some u) → (Cont.rows k).rel ρ m.nx cell := fun cell h1 h2 => rows_rel fun r j cl hc hr => by
      obtain ⟨xa, ya, q1, q2, q3⟩ := hk3 j cl hc
      have hjw : j < i.size := by have := (List.getElem?_eq_some_iff.1 hc).1; omega
      obtain ⟨q4, q5⟩ := Col.cat_ok q3
      rw [partR_get] at q1
      cases hzj : zs[j]? with
      | none => rw [hzj] at q1; cases q1
      | some cl0 =>
        rw [hzj] at q1
        have q1 : cl0.part 0 n0 = xa := by simpa using q1
        subst q1
        have hl0 : (cl0.part 0 n0).len = n0 := Col.part_len (by have := lensR_get hbz hzj; omega)
        have hly := hlen j ya q2
        rw [q4, hl0, hly] at hr
        rw [hkw]
        by_cases hrn : r < n0
        · rw [(q5 r).1 (by omega), Col.part_val hrn, Nat.zero_add, h1 _ (hrow r j hrn hjw)]
          exact hold r j cl0 hzj hrn
        · rw [(q5 r).2 (by omega), hl0]
          have hg2 := flatR_get (n := n) (show r - n0 < n by omega) q2
          have := h2 _ _ hg2
          rw [hcl] at this
          rw [← this]
          congr 1
          have : r * i.size = n0 * i.size + (r - n0) * i.size := by rw [← Nat.add_mul]; congr 1; omega
          omega
    by_cases hroom : n0 + n ≤ c
    · have hfit : n0 * i.size + (flatR cs n).length ≤ cur.size := by
        rw [hnl, ← Nat.add_mul]
        exact Nat.le_trans (Nat.mul_le_mul_right _ hroom) (Nat.le_trans hcap hcs)
      have hr := run_append_src (P := P) (w := w) t tx ty e e' i hu hi (ρ l).b n0 c cur hg y n (flatR cs n) hsrc hroom hfit
      have hrw := setRow_heap w (ρ l).b cur (cur.toList.take (n0 * i.size) ++ flatR cs n ++ cur.toList.drop (n0 * i.size + (flatR cs n).length)).toArray e' (0, 0) hg
      have hl2 : (cur.toList.take (n0 * i.size) ++ flatR cs n ++ cur.toList.drop (n0 * i.size + (flatR cs n).length)).length = cur.size := by
        simp only [List.length_append, List.length_take, List.length_drop, Array.length_toList]
        omega
      obtain ⟨e1, e2⟩ := MRel.turnG (bn := ⟨true, true, .rows k⟩) rfl (w' := w.setRow (ρ l).b (cur.toList.take (n0 * i.size) ++ flatR cs n ++ cur.toList.drop (n0 * i.size + (flatR cs n).length)).toArray) hm hlk rfl (by simp [World.setRow]) rfl rfl ⟨rfl, Nat.le_refl _⟩ (fun g hg => setRow_other w _ g _ hg)
        ⟨.inl (by
            rcases hok.lt with h | h
            · simpa [World.setRow] using h
            · exact absurd h (wr_not_void rfl)), hnew _ (fun p hp => by
          simp only [ho, Nat.zero_add, World.cell?, hrw]
          simp only [List.append_assoc, List.getElem?_toArray]
          rw [List.getElem?_append_left (by simp; omega), List.getElem?_take_of_lt hp]
          simp) (fun p u hp => by
          have hpl := (List.getElem?_eq_some_iff.1 hp).1
          simp only [ho, Nat.zero_add, World.cell?, hrw]
          simp only [List.append_assoc, List.getElem?_toArray]
          rw [List.getElem?_append_right (by simp; omega)]
          simp only [List.length_take, Array.length_toList, Nat.min_eq_left hncs, Nat.add_sub_cancel_left]
          rw [List.getElem?_append_left hpl]
          exact hp), (fun _ j => by simp only [World.frozen?, hrw]; simp), (fun _ => ⟨rfl, ho, _, e', hrw, by rw [List.size_toArray, hl2]; exact hcs⟩), fun q hq => by cases hq⟩
      refine ⟨_, _, _, hr, ?_, e1, e2⟩
      simp only [AV.rel, Rho.new, if_true]
      exact ⟨Nat.lt_succ_self _, _, c, rfl, hroom, fun _ => by rw [ho, Nat.zero_mul], fun _ => rfl, by rw [Nat.zero_mul, Nat.one_mul, Nat.zero_add]; exact hcap⟩
    · have hfc : (Builtin.firstCells i.size n0 (.slice (some ⟨(ρ l).b, 0, none⟩) n0 c)).run P w.drew = .ok (cur.toList.take (n0 * i.size)).toArray w.drew :=
        run_firstCells_some (P := P) w.drew i.size n0 ⟨(ρ l).b, 0, none⟩ n0 c (cur.toList.take (n0 * i.size)) (by simp; omega) (fun j u hj => by
          rw [add_none, Nat.zero_add]
          simp only [World.cell?]
          rw [show w.drew.heap = w.heap from rfl, hg]
          rw [List.getElem?_take] at hj
          split at hj
          · simpa using hj
          · cases hj)
      have hr := run_append_grow_src (P := P) w t tx ty e i zv hu hi hz (some ⟨(ρ l).b, 0, none⟩) n0 c _ hfc y n (flatR cs n) hsrc (by omega) (by omega) (growslice_fits (by omega) hb1)
      have hge := grownCap_ge w (n0 + n) c e
      obtain ⟨ρ', e1, e2, e3⟩ := fresh_drew (e := e) (k := .rows k) (wd := i.size) (s := 1) (n := n0 + n) (c := grownCap w (n0 + n) c e) (bl' := upd m.bl l none) (arr := (cur.toList.take (n0 * i.size) ++ flatR cs n).toArray ++ Builtin.zeroCells zv.cells (grownCap w (n0 + n) c e - (n0 + n))) hm (hnew _ (fun p hp => by
          rw [Array.getElem?_append_left (by simp; omega), List.getElem?_toArray, List.getElem?_append_left (by simp; omega), List.getElem?_take_of_lt hp]
          simp) (fun p u hp => by
          have hpl := (List.getElem?_eq_some_iff.1 hp).1
          rw [Array.getElem?_append_left (by simp; omega), List.getElem?_toArray, List.getElem?_append_right (by simp; omega)]
          simp only [List.length_take, Array.length_toList, Nat.min_eq_left hncs, Nat.add_sub_cancel_left]
          exact hp)) (by
        rw [Array.size_append, size_zeroCells, hzs, Nat.one_mul]
        simp only [List.size_toArray, List.length_append, List.length_take, Array.length_toList, hnl, Nat.min_eq_left hncs, ← Nat.add_mul]
        exact Nat.mul_le_mul_right _ (by omega)) hge upd_sub rfl
      exact ⟨ρ', _, _, hr, e1, e2, e3⟩
  · cases h
/-- A name that stands for a choice of the prover's: of 1000001: what is put behind is something; of 1000002: what is put behind a row that has grown is nothing. -/
def hintA (m : MS) (k : Nat) : Bool := match look m.bl k with
  | some _ => true
  | none => false
def appendNilH (P : Program) (m : MS) (t tx : TypeId) (a b : AV) : Option AV := match hintA m 1000001 || hintA m 1000002 with
  | true => none
  | false => appendNil P t tx a b
theorem appendNilH_ok {t tx ty : TypeId} {a b v : AV} {x y : Value} (h : appendNilH P m t tx a b = some v) (hx : AV.rel ρ m.nx a x) (hy : AV.rel ρ m.nx b y) : PureOk P (Builtin.append_ #[t, tx] ty #[x, y]) ρ m.nx w v := by
  unfold appendNilH at h
  split at h
  · cases h
  · exact appendNil_ok h hx hy
/-- A text that is nothing, put behind nothing. -/
def appendS (P : Program) (m : MS) (t tx : TypeId) (b : AV) : Option (AV × MS × List Bool) := match P.underlying t with
  | some (.slice e) => match P.info? e with
    | some i => match Nat.beq i.size 1 with
      | true => match newsB P m tx b with
        | some (_, k, bs) => some (.val (.slice none 0 0), m, decide (k = 0) :: bs)
        | none => none
      | false => none
    | none => none
  | _ => none
theorem appendS_ok {t tx ty : TypeId} {b v : AV} {m' : MS} {bs : List Bool} {y : Value} (h : appendS P m t tx b = some (v, m', bs)) (hm : MRel ρ m w) (hy : AV.rel ρ m.nx b y) (hbs : bs.all id = true) : MemOk P (Builtin.append_ #[t, tx] ty #[.slice none 0 0, y]) ρ m w v m' := by
  unfold appendS at h
  split at h <;> try cases h
  rename_i e hu
  split at h <;> try cases h
  rename_i i hi
  split at h <;> try cases h
  rename_i his
  have his := Nat.eq_of_beq_eq_true his
  split at h <;> try cases h
  rename_i s k bs' hn
  obtain ⟨b0, b1⟩ := all_cons hbs
  have b0 : k = 0 := by simpa using b0
  obtain ⟨hsrc, hk⟩ := newsB_ok hn hm hy b1
  subst b0
  refine ⟨ρ, .slice none 0 0, w, ?_, by simp only [AV.rel], hm, Moves.refl (Nat.le_refl _)⟩
  rcases hsrc.kind with ⟨e', hk'⟩ | hk' <;> simp [Builtin.append_, run_underlying hu, run_underlying hk', sizeOf, typeInfo, hi, his, hsrc.len, hsrc.cells]
def appendO (P : Program) (m : MS) (t tx : TypeId) (a b : AV) : Option (AV × MS × List Bool) := match hintA m 1000002 with
  | true => match a, b with
    | .sl _ _ _ _ _ _ none, .sl nn l w r s n cap => match look m.bl l with
      | some bk => match bk.cont.isRow with
        | true => match appendNil P t tx a (.sl nn l w r s 0 cap) with
          | some v => some (v, m, [decide (n = 0)])
          | none => none
        | false => none
      | none => none
    | .val (.slice none 0 0), .val (.string s) => appendS P m t tx (.val (.string s))
    | _, _ => none
  | false => none
theorem appendO_ok {t tx ty : TypeId} {a b v : AV} {m' : MS} {bs : List Bool} {x y : Value} (h : appendO P m t tx a b = some (v, m', bs)) (hm : MRel ρ m w) (hx : AV.rel ρ m.nx a x) (hy : AV.rel ρ m.nx b y) (hbs : bs.all id = true) : MemOk P (Builtin.append_ #[t, tx] ty #[x, y]) ρ m w v m' := by
  unfold appendO at h
  split at h <;> try cases h
  split at h <;> try cases h
  · split at h <;> try cases h
    split at h <;> try cases h
    split at h <;> try cases h
    rename_i v0 hv
    simp only [List.all_cons, List.all_nil, id, Bool.and_true, decide_eq_true_eq] at hbs
    subst hbs
    obtain ⟨z, h1, h2⟩ := appendNil_ok (w := w) (ty := ty) hv hx hy
    exact ⟨ρ, z, w, h1, h2, hm, Moves.refl (Nat.le_refl _)⟩
  · simp only [AV.rel] at hx
    subst hx
    exact appendS_ok h hm hy hbs
/-- Known cells, put behind a slice of nothing that has no room. -/
def appendE (P : Program) (m : MS) (t : TypeId) (a b : AV) : Option (AV × MS × List Bool) := match P.underlying t with
  | some (.slice e) => match P.info? e with
    | some i => match i.zero with
      | some zv => match Nat.beq zv.cells.size i.size with
        | true => match a with
          | .sl _ _ _ _ _ n0 (some c0) => match c0 with
            | 0 => match n0 with
              | 0 => match newsA m b i.size with
                | some (cnt, cs) => match Nat.blt 0 cnt && Nat.blt 0 i.bytes with
                  | true => match (nilCont i.size cs).app i.size 0 cs with
                    | some (k, bs) => match Nat.beq (strideOf k.width i.size * k.width) i.size with
                      | true => some (.sl true m.nx k.width 0 (strideOf k.width i.size) cnt none, ⟨(m.nx, some ⟨true, true, k⟩) :: m.bl, m.nx + 1⟩, decide (cnt * i.bytes ≤ 140737488355328) :: bs)
                      | false => none
                    | none => none
                  | false => none
                | none => none
              | _ => none
            | _ => none
          | _ => none
        | false => none
      | none => none
    | none => none
  | _ => none
theorem appendE_ok {t ty : TypeId} {a b v : AV} {m' : MS} {bs : List Bool} {x y : Value} (h : appendE P m t a b = some (v, m', bs)) (hm : MRel ρ m w) (hx : AV.rel ρ m.nx a x) (hy : AV.rel ρ m.nx b y) (hbs : bs.all id = true) : MemOk P (Builtin.append_ #[t, t] ty #[x, y]) ρ m w v m' := by
  unfold appendE at h
  split at h <;> try cases h
  rename_i e hu
  split at h <;> try cases h
  rename_i i hi
  split at h <;> try cases h
  rename_i zv hz
  split at h <;> try cases h
  rename_i hzs
  have hzs := Nat.eq_of_beq_eq_true hzs
  split at h <;> try cases h
  split at h <;> try cases h
  split at h <;> try cases h
  split at h <;> try cases h
  rename_i cnt cs hnews
  split at h <;> try cases h
  rename_i h01
  simp only [Bool.and_eq_true, Nat.blt_eq] at h01
  obtain ⟨h0, hby⟩ := h01
  obtain ⟨ad, c2, news, rfl, hl, hnw, hone, hrel⟩ := newsA_ok hnews h0 hm hy
  split at h <;> try cases h
  rename_i k bs' happ
  split at h <;> try cases h
  rename_i hst
  have hst := Nat.eq_of_beq_eq_true hst
  simp only [AV.rel] at hx
  obtain ⟨_, A, c, rfl, _, _, _, hc⟩ := hx
  subst hc
  obtain ⟨hb1, hb2⟩ := all_cons hbs
  have hb1 : cnt * i.bytes ≤ 140737488355328 := by simpa using hb1
  have hcnt : cnt ≤ cnt * i.bytes := Nat.le_mul_of_pos_right _ hby
  have hfc : (Builtin.firstCells i.size 0 (.slice A 0 0)).run P w.drew = .ok ([] : List Value).toArray w.drew := by
    cases A with
    | none => exact run_firstCells_none w.drew i.size 0 0 0
    | some ad => exact run_firstCells_some (P := P) w.drew i.size 0 ad 0 0 [] (by simp) (fun j u hj => by simp at hj)
  have hr := run_append_grow_src (P := P) w t t ty e i zv hu hi hz A 0 0 [] hfc (.slice (some ad) cnt c2) cnt news (Src.ofSlice (P := P) w hu ad cnt c2 news hl hnw hone) (by omega) (by omega) (by rw [Nat.zero_add]; exact growslice_fits (by omega) hb1)
  simp only [Nat.zero_add, List.nil_append] at hr
  have hge := grownCap_ge w cnt 0 e
  obtain ⟨g1, _⟩ := Cont.app_rel (cell' := fun j => (news.toArray ++ Builtin.zeroCells zv.cells (grownCap w cnt 0 e - cnt))[j]?) happ hb2 (cell := fun _ => none) (fun r c a' ha' => absurd ha' nilCont_at) hrel (fun j hj => by omega) (fun j u hj => by
    rw [Nat.zero_mul, Nat.zero_add, Array.getElem?_append_left (by have := (List.getElem?_eq_some_iff.1 hj).1; simpa using this)]
    simpa using hj)
  obtain ⟨ρ', e1, e2, e3⟩ := fresh_drew (e := e) (wd := k.width) (s := strideOf k.width i.size) (n := cnt) (c := grownCap w cnt 0 e) (bl' := m.bl) hm g1 (by
    rw [hst, Array.size_append, size_zeroCells, hzs]
    simp only [List.size_toArray, hl, ← Nat.add_mul]
    exact Nat.mul_le_mul_right _ (by omega)) hge (fun _ _ h => h) (Cont.app_plain happ)
  exact ⟨ρ', _, _, hr, e1, e2, e3⟩
/-- append, of whatever kind. -/
def appendAll (P : Program) (m : MS) (t tx : TypeId) (a b : AV) : Option (AV × MS × List Bool) := match appendO P m t tx a b with
  | some r => some r
  | none => match appendAny P m t tx a b with
    | some r => some r
    | none => match appendR P m t tx a b with
      | some r => some r
      | none => match Nat.beq t tx with
        | true => appendE P m t a b
        | false => none
theorem appendAll_ok {t tx ty : TypeId} {a b v : AV} {m' : MS} {bs : List Bool} {x y : Value} (h : appendAll P m t tx a b = some (v, m', bs)) (hm : MRel ρ m w) (hx : AV.rel ρ m.nx a x) (hy : AV.rel ρ m.nx b y) (hbs : bs.all id = true) : MemOk P (Builtin.append_ #[t, tx] ty #[x, y]) ρ m w v m' := by
  unfold appendAll at h
  split at h
  · rename_i r hr
    cases h
    exact appendO_ok hr hm hx hy hbs
  · split at h
    · rename_i r hr
      cases h
      exact appendAny_ok hr hm hx hy hbs
    · split at h
      · rename_i r hr
        cases h
        exact appendR_ok hr hm hx hy hbs
      · split at h
        · rename_i he
          have he := Nat.eq_of_beq_eq_true he
          subst he
          exact appendE_ok h hm hx hy hbs
        · cases h
end
end Go.Proofs.Ytmjpikkloofakaa

namespace Go.Proofs.Ytmjpikkloofakaa
open Go Go.RowKit
/-- A number, or some, of a value. -/
def intsV : List AV → Option (List Int)
  | [] => some []
  | .val (.int k x) :: l => match decide (k = .i64), intsV l with
    | true, some r => some (x :: r)
    | _, _ => none
  | _ => none
def keyL : AV → Option (Nat × List Int)
  | .val (.int k x) => match decide (k = .i64) with
    | true => some (0, [x])
    | false => none
  | .agg l => match intsV l with
    | some (x :: r) => some (r.length + 1, x :: r)
    | _ => none
  | _ => none
theorem expl_len : ∀ (n : Nat) (l : List Int), (expl n l).length = n
  | 0, _ => rfl
  | n + 1, l => by simp [expl, expl_len n]
theorem expl_self : ∀ {n : Nat} {l : List Int}, l.length = n → expl n l = l
  | 0, [], _ => rfl
  | n + 1, x :: l, h => by simp only [expl, List.headD_cons, List.tail_cons, expl_self (n := n) (l := l) (by simpa using h)]
/-- How many numbers a key has. -/
def wid : Nat → Nat
  | 0 => 1
  | n + 1 => n + 1
def avV : Nat → List Int → AV
  | 0, l => .val (.int .i64 (l.getD 0 0))
  | n + 1, l => .agg ((expl (n + 1) l).map fun x => .val (.int .i64 x))
section
variable {P : Program} {ρ : Rho} {nx : Nat} {w : World}
theorem intsV_ok : ∀ {l : List AV} {r : List Int} {xs : List Value}, intsV l = some r → AV.rels ρ nx l xs → xs = r.map (Value.int .i64)
  | [], r, xs, h, hx => by
    simp only [intsV, Option.some.injEq] at h
    simp only [AV.rels] at hx
    subst h hx; rfl
  | a :: l, r, xs, h, hx => by
    unfold intsV at h
    split at h
    · rename_i e; cases e
    · rename_i k x l' e
      cases e
      split at h
      · rename_i r' hk hr
        cases h
        simp only [AV.rels, AV.rel] at hx
        obtain ⟨y, ys, rfl, rfl, h2⟩ := hx
        rw [intsV_ok hr h2, of_decide_eq_true hk]; rfl
      · cases h
    · cases h
theorem keyL_ok {a : AV} {f : Nat} {l : List Int} {x : Value} (h : keyL a = some (f, l)) (hx : AV.rel ρ nx a x) : x = mkV f l := by
  unfold keyL at h
  split at h
  · split at h
    · rename_i k y hk
      cases h
      simp only [AV.rel] at hx
      rw [hx, of_decide_eq_true hk]; rfl
    · cases h
  · split at h
    · rename_i l' y r hr
      cases h
      simp only [AV.rel] at hx
      obtain ⟨ys, rfl, h2⟩ := hx
      rw [intsV_ok hr h2]
      simp only [mkV]
      rw [expl_self (by simp)]
    · cases h
  · cases h
theorem keyL_len {a : AV} {f : Nat} {l : List Int} (h : keyL a = some (f, l)) : l.length = wid f := by
  unfold keyL at h
  split at h
  · split at h
    · cases h; rfl
    · cases h
  · split at h
    · cases h; rfl
    · cases h
  · cases h
theorem avs_rel : ∀ (l : List Int), AV.rels ρ nx (l.map fun x => AV.val (.int .i64 x)) (l.map (Value.int .i64))
  | [] => by simp [AV.rels]
  | x :: l => by simp only [List.map_cons, AV.rels, AV.rel]; exact ⟨_, _, rfl, rfl, avs_rel l⟩
theorem avV_rel (f : Nat) (l : List Int) : AV.rel ρ nx (avV f l) (mkV f l) := by
  cases f with
  | succ n => simp only [avV, mkV, AV.rel]; exact ⟨_, rfl, avs_rel _⟩
  | zero => simp only [avV, mkV, AV.rel]
/-- Fields that are numbers, one cell each. -/
def fieldsI (P : Program) : List Field → Nat → Bool
  | [], _ => true
  | f :: fs, j => match decide (f.name = "_"), Nat.beq f.offset j, P.underlying f.type with
    | false, true, some (.int k) => match decide (k = .i64) with
      | true => fieldsI P fs (j + 1)
      | false => false
    | _, _, _ => false
def shapeI (P : Program) (t : TypeId) (f : Nat) : Bool := match f, P.underlying t with
  | 0, some (.int k) => decide (k = .i64)
  | n + 1, some (.struct fs) => match P.stoodInHeld t, Nat.beq fs.toList.length (n + 1) with
    | false, true => fieldsI P fs.toList 0
    | _, _ => false
  | _, _ => false
theorem fieldsI_cons {f : Field} {fs : List Field} {j : Nat} (h : fieldsI P (f :: fs) j = true) : ¬ f.name = "_" ∧ f.offset = j ∧ P.underlying f.type = some (.int .i64) ∧ fieldsI P fs (j + 1) = true := by
  simp only [fieldsI] at h
  split at h
  · rename_i k h1 h2 h3
    split at h
    · rename_i hk
      rw [of_decide_eq_true hk] at h3
      exact ⟨of_decide_eq_false h1, Nat.eq_of_beq_eq_true h2, h3, h⟩
    · cases h
  · cases h
theorem drop_get {l : List Int} {j : Nat} (h : j < l.length) : l.drop j = l.getD j 0 :: l.drop (j + 1) := by
  rw [List.drop_eq_getElem_cons h, List.getD_eq_getElem?_getD, List.getElem?_eq_getElem h]; rfl
theorem eqFs_I {a b : List Int} : ∀ {fs : List Field} {j : Nat}, fieldsI P fs j = true → a.length = j + fs.length → b.length = j + fs.length →
    eqFs P (eqA P 1) fs (a.map fun x => AV.val (.int .i64 x)) (b.map fun x => AV.val (.int .i64 x)) = some (decide (a.drop j = b.drop j))
  | [], j, _, ha, hb => by
    simp only [List.length_nil, Nat.add_zero] at ha hb
    rw [List.drop_of_length_le (by omega), List.drop_of_length_le (by omega)]; simp [eqFs]
  | f :: fs, j, h, ha, hb => by
    obtain ⟨h1, h2, h3, h4⟩ := fieldsI_cons h
    simp only [List.length_cons] at ha hb
    have ih := eqFs_I (a := a) (b := b) h4 (by omega) (by omega)
    have hp : ∀ {l : List Int}, j < l.length → partA P f.type (l.map fun x => AV.val (.int .i64 x)) f.offset = some (.val (.int .i64 (l.getD j 0))) := fun {l} hl => by
      simp only [partA, aggT, h3, h2, List.getElem?_map, List.getElem?_eq_getElem hl, List.getD_eq_getElem?_getD]; rfl
    have he : ∀ x y : Int, eqA P 1 f.type (.val (.int .i64 x)) (.val (.int .i64 y)) = some (x == y) := fun x y => by
      simp [eqA, h3]
    simp only [eqFs, h1, decide_false, hp (show j < a.length by omega), hp (show j < b.length by omega), he, ih]
    rw [drop_get (show j < a.length by omega), drop_get (show j < b.length by omega)]
    generalize a.getD j 0 = x
    generalize b.getD j 0 = y
    by_cases e : x = y <;> simp [e]
theorem shapeI_f {t : TypeId} (h : shapeI P t 0 = true) : P.underlying t = some (.int .i64) := by
  unfold shapeI at h
  split at h
  · rename_i k _ hk
    rw [of_decide_eq_true h] at hk; exact hk
  · rename_i e _; cases e
  · cases h
theorem shapeI_t {t : TypeId} {n : Nat} (h : shapeI P t (n + 1) = true) : ∃ fs, P.underlying t = some (.struct fs) ∧ P.stoodInHeld t = false ∧ fs.toList.length = n + 1 ∧ fieldsI P fs.toList 0 = true := by
  unfold shapeI at h
  split at h
  · rename_i e _; cases e
  · rename_i n' fs e hk
    cases e
    split at h
    · rename_i h1 h2; exact ⟨fs, hk, h1, Nat.eq_of_beq_eq_true h2, h⟩
    · cases h
  · cases h
theorem one_len {l : List Int} (h : l.length = 1) : l = [l.getD 0 0] := by
  cases l with
  | nil => cases h
  | cons a l => cases l with
    | nil => rfl
    | cons b l => cases h
theorem equal_I {t : TypeId} {f : Nat} {a b : List Int} (h : shapeI P t f = true) (ha : a.length = wid f) (hb : b.length = wid f) : (Op.equal t (mkV f a) (mkV f b)).run P w = .ok (decide (a = b)) w := by
  have he : eqA P 2 t (avV f a) (avV f b) = some (decide (a = b)) := by
    cases f with
    | zero =>
      have h1 := shapeI_f h
      simp only [eqA, avV, h1, decide_true]
      rw [one_len ha, one_len hb]
      generalize a.getD 0 0 = x
      generalize b.getD 0 0 = y
      by_cases e : x = y <;> simp [e]
    | succ n =>
      obtain ⟨fs, h1, h2, h3, h4⟩ := shapeI_t h
      simp only [wid] at ha hb
      show (match P.underlying t with | _ => _) = _
      simp only [eqA, avV, h1, h2, expl_self ha, expl_self hb]
      exact eqFs_I h4 (by omega) (by omega)
  exact eqA_ok (ρ := fun _ => ⟨0, 0, 0, 0⟩) (nx := 0) 2 t _ _ _ _ _ Op.maxDepth he (avV_rel f a) (avV_rel f b) (by decide)
theorem checkKey_I {t : TypeId} {f : Nat} {a : List Int} (h : shapeI P t f = true) (ha : a.length = wid f) (em : Bool) (d : Nat) : (Instr.checkKey em (d + 2) t (mkV f a)).run P w = .ok () w := by
  cases f with
  | zero =>
    have h1 := shapeI_f h
    simp [Instr.checkKey, run_underlying h1, mkV]
  | succ n =>
    obtain ⟨fs, h1, h2, h3, h4⟩ := shapeI_t h
    simp only [wid] at ha
    simp only [mkV, expl_self ha]
    rw [Instr.checkKey]
    simp only [Sem.run_bind, run_underlying h1, Result.andThen_ok]
    rw [← Array.forIn_toList]
    have hlen : a.length = 0 + fs.toList.length := by omega
    clear h1 h3
    revert h4 hlen
    generalize fs.toList = L
    generalize 0 = j
    intro h4 hlen
    induction L generalizing j with
    | nil => simp
    | cons g L ih =>
      obtain ⟨g1, g2, g3, g4⟩ := fieldsI_cons h4
      simp only [List.length_cons] at hlen
      obtain ⟨x, p1, p2⟩ := part_ok (P := P) (ρ := fun _ => ⟨0, 0, 0, 0⟩) (nx := 0) (t := g.type) (off := g.offset) (a := .val (.int .i64 (a.getD j 0))) (cs := a.map fun x => AV.val (.int .i64 x)) (xs := a.map (Value.int .i64)) (by
        simp only [partA, aggT, g3, g2, List.getElem?_map, List.getElem?_eq_getElem (show j < a.length by omega), List.getD_eq_getElem?_getD]; rfl) (avs_rel a) w
      simp only [AV.rel] at p2
      subst p2
      have := ih (j + 1) g4 (by omega)
      simp only [List.forIn_cons, Sem.run_bind, g1, ne_eq, not_false_eq_true, if_true, Result.andThen_ok, p1, Sem.run_pure]
      have hk : (Instr.checkKey em (d + 1) g.type (Value.int .i64 (a.getD j 0))).run P w = .ok () w := by
        simp [Instr.checkKey, run_underlying g3]
      simp only [hk, Result.andThen_ok]
      simpa using this
/-- Where a key stands, and what it holds. -/
def findM (k : List Int) : List (List Int × List Int) → Nat → Option (Nat × List Int)
  | [], _ => none
  | (a, v) :: es, i => match decide (k = a) with
    | true => some (i, v)
    | false => findM k es (i + 1)
theorem find_I {t : TypeId} {f fv : Nat} {k : List Int} (h : shapeI P t f = true) (hk : k.length = wid f) {es : List (List Int × List Int)} (hes : ∀ e ∈ es, e.1.length = wid f) :
    (Instr.findKey t (mkV f k) (entL f fv 0 es)).run P w = .ok ((findM k es 0).map fun q => (q.1, mkV fv q.2)) w := by
  cases f with
  | zero =>
    have h1 := shapeI_f h
    refine Go.MapKept.run_findKey h1 ?_
    have : ∀ (es : List (List Int × List Int)) (i j : Nat), (∀ e ∈ es, e.1.length = 1) → Instr.findNow (.int .i64) (mkV 0 k) (entL 0 fv j es) i = some ((findM k es i).map fun q => (q.1, mkV fv q.2)) := by
      intro es
      induction es with
      | nil => intro i j _; rfl
      | cons e es ih =>
        intro i j he
        obtain ⟨a, v⟩ := e
        have ea : a.length = 1 := he _ (List.mem_cons_self ..)
        have ih := ih (i + 1) (j + 1) fun e h => he e (List.mem_cons_of_mem _ h)
        have e1 : (k = a) ↔ (k.getD 0 0 = a.getD 0 0) := by
          constructor
          · intro e; rw [e]
          · intro e; rw [one_len hk, one_len ea, e]
        simp only [entL, Instr.findNow, mkV, Instr.sameNow, findM] at ih ⊢
        by_cases e : k.getD 0 0 = a.getD 0 0
        · rw [decide_eq_true (e1.2 e)]
          rw [beq_iff_eq.2 e]; rfl
        · rw [decide_eq_false (fun h => e (e1.1 h))]
          rw [beq_eq_false_iff_ne.2 e]
          exact ih
    exact this es 0 0 hes
  | succ n =>
    obtain ⟨fs, h1, h2, h3, h4⟩ := shapeI_t h
    rw [run_findKey_eq w (by rw [h1])]
    have : ∀ (es : List (List Int × List Int)) (i j : Nat), (∀ e ∈ es, e.1.length = wid (n + 1)) → (Instr.findAsking t (mkV (n + 1) k) (entL (n + 1) fv j es) i).run P w = .ok ((findM k es i).map fun q => (q.1, mkV fv q.2)) w := by
      intro es
      induction es with
      | nil => intro i j _; rfl
      | cons e es ih =>
        intro i j he
        obtain ⟨a, v⟩ := e
        have ea : a.length = wid (n + 1) := he _ (List.mem_cons_self ..)
        have ih := ih (i + 1) (j + 1) fun e h => he e (List.mem_cons_of_mem _ h)
        simp only [entL, Instr.findAsking, findM, Sem.run_bind, equal_I h hk ea, Result.andThen_ok]
        by_cases e : k = a
        · simp [e]
        · simp only [e, decide_false, Bool.false_eq_true, if_false]
          exact ih
    exact this es 0 0 hes
theorem findM_at {k : List Int} : ∀ {es : List (List Int × List Int)} {i j : Nat} {v : List Int}, findM k es i = some (j, v) → i ≤ j ∧ es[j - i]? = some (k, v)
  | [], i, j, v, h => by cases h
  | (a, u) :: es, i, j, v, h => by
    simp only [findM] at h
    split at h
    · rename_i e
      cases h
      rw [of_decide_eq_true e]
      exact ⟨Nat.le_refl _, by simp⟩
    · obtain ⟨h1, h2⟩ := findM_at h
      refine ⟨by omega, ?_⟩
      rw [show j - i = (j - (i + 1)) + 1 by omega, List.getElem?_cons_succ]
      exact h2
/-- What is held at a key. -/
def lookM (es : List (List Int × List Int)) (k : List Int) : Option (List Int) := match findM k es 0 with
  | some (_, v) => some v
  | none => none
def putM (es : List (List Int × List Int)) (k v : List Int) : List (List Int × List Int) := match findM k es 0 with
  | some (i, _) => es.set i (k, v)
  | none => es ++ [(k, v)]
theorem entL_get {f fv : Nat} : ∀ {es : List (List Int × List Int)} {j i : Nat}, (entL f fv j es)[i]? = (es[i]?).map fun e => { key := mkV f e.1, val := mkV fv e.2, born := j + i }
  | [], j, i => by simp [entL]
  | e :: es, j, 0 => by simp [entL]
  | e :: es, j, i + 1 => by
    obtain ⟨a, v⟩ := e
    simp only [entL, List.getElem?_cons_succ, entL_get (es := es), Nat.add_assoc, Nat.add_comm 1]
theorem entL_len {f fv : Nat} : ∀ {es : List (List Int × List Int)} {j : Nat}, (entL f fv j es).length = es.length
  | [], j => rfl
  | (a, v) :: es, j => by simp [entL, entL_len (es := es)]
theorem entL_put {f g : Nat} {es : List (List Int × List Int)} {k v : List Int} {n : Nat} (hn : n = es.length) : (entL f g 0 es).toArray.push { key := mkV f k, val := mkV g v, born := n } = (entL f g 0 (es ++ [(k, v)])).toArray := by
  subst hn
  apply Array.ext'
  apply List.ext_getElem?
  intro i
  simp only [List.push_toArray, entL_get, List.getElem?_append, entL_len, Nat.zero_add]
  split
  · rename_i h; simp [h]
  · rename_i h
    by_cases e : i = es.length
    · subst e; simp
    · rw [List.getElem?_eq_none (by simp only [List.length_cons, List.length_nil]; omega), List.getElem?_eq_none (by simp only [List.length_cons, List.length_nil]; omega)]; rfl
theorem entL_set {f g : Nat} {es : List (List Int × List Int)} {k v u : List Int} {i : Nat} (hi : es[i]? = some (k, u)) : (entL f g 0 es).toArray.modify i (fun e => { e with key := mkV f k, val := mkV g v }) = (entL f g 0 (es.set i (k, v))).toArray := by
  apply Array.ext'
  rw [Array.toList_modify]
  apply List.ext_getElem?
  intro j
  have hlt : i < es.length := (List.getElem?_eq_some_iff.1 hi).1
  simp only [List.getElem?_modify, entL_get, List.getElem?_set]
  by_cases e : i = j
  · subst e; simp [hi, hlt]
  · simp [e]
theorem sameBits_ints : ∀ (n : Nat) (l : List Int), ((l.map (Value.int .i64)).zip (l.map (Value.int .i64))).all (fun (x, y) => Instr.sameBits n x y) = true
  | n, [] => rfl
  | n, x :: l => by
    have : Instr.sameBits n (Value.int .i64 x) (Value.int .i64 x) = true := by unfold Instr.sameBits; simp
    simp only [List.map_cons, List.zip_cons_cons, List.all_cons, this, sameBits_ints n l, Bool.and_self]
theorem sameBits_mk (f : Nat) (l : List Int) (n : Nat) : Instr.sameBits (n + 1) (mkV f l) (mkV f l) = true := by
  cases f with
  | zero => simp [mkV, Instr.sameBits]
  | succ m =>
    simp only [mkV, Instr.sameBits, beq_self_eq_true, Bool.true_and]
    exact sameBits_ints n _
end
def keysN (n : Nat) (es : List (List Int × List Int)) : Bool := es.all fun e => Nat.beq e.1.length n
theorem keysN_ok {n : Nat} {es : List (List Int × List Int)} (h : keysN n es = true) : ∀ e ∈ es, e.1.length = n := fun e he => Nat.eq_of_beq_eq_true (List.all_eq_true.1 h e he)
/-- A block's content in place of another, under the same name. -/
theorem MRel.put {ρ : Rho} {m : MS} {w w' : World} {l : Nat} {b bn : ABlk} (hnn : bn.cont.nested = false) (h : MRel ρ m w) (hl : look m.bl l = some b) (hw : b.wr = true) (hsz : w'.heap.size = w.heap.size) (hos : w'.os = w.os) (htp : w'.tape = w.tape) (hout : OutLe w w')
    (hoth : ∀ g, g ≠ (ρ l).b → w'.heap[g]? = w.heap[g]?) (hok : bn.ok ρ m.nx (ρ l) w') :
    MRel ρ ⟨upd m.bl l (some bn), m.nx⟩ w' ∧ Moves m.nx ρ ρ m ⟨upd m.bl l (some bn), m.nx⟩ w w' := by
  have key : ∀ j b', look (upd m.bl l (some bn)) j = some b' → (j = l ∧ b' = bn) ∨ (j ≠ l ∧ look m.bl j = some b') := fun j b' hj => by
    rw [look_upd] at hj
    split at hj
    · rename_i e; cases hj; exact .inl ⟨e.symm, rfl⟩
    · rename_i e; exact .inr ⟨Ne.symm e, hj⟩
  refine ⟨⟨fun j b' hj => ?_, fun j b1 j' b2 h1 h2 hw1 hne hnv => ?_, fun j b1 j' b2 h1 h2 hw1 hn2 => ?_⟩, ⟨fun _ _ => rfl, Nat.le_refl _, hos, htp, hout, by omega, fun g hg hn => hoth g (fun e => hn ⟨l, b, hl, hw, e.symm⟩), fun g ⟨j, b', h1, h2, h3⟩ => .inl ?_⟩⟩
  · rcases key j b' hj with ⟨rfl, rfl⟩ | ⟨hne, hj⟩
    · exact ⟨(h.blk _ _ hl).1, hok⟩
    · refine ⟨(h.blk j b' hj).1, ?_⟩
      by_cases hv : b'.void
      · exact ABlk.ok.any hv _
      · exact ((h.blk j b' hj).2).ext (fun _ _ => rfl) (Nat.le_refl _) (by omega) (hoth _ (h.apart l b j b' hl hj hw hne hv)) fun hn' g hg => hoth g (fun e' => by rw [e', h.deep l b j b' hl hj hw hn'] at hg; cases hg)
  · rcases key j b1 h1 with ⟨rfl, rfl⟩ | ⟨hjl, hj⟩
    · rcases key j' b2 h2 with ⟨rfl, _⟩ | ⟨hjl', hj'⟩
      · exact absurd rfl hne
      · exact h.apart _ b j' b2 hl hj' hw hjl' hnv
    · rcases key j' b2 h2 with ⟨rfl, rfl⟩ | ⟨hjl', hj'⟩
      · exact h.apart j b1 _ b hj hl hw1 (Ne.symm hjl) (wr_not_void hw)
      · exact h.apart j b1 j' b2 hj hj' hw1 hne hnv
  · have g1 : ∃ a0, look m.bl j = some a0 ∧ a0.wr = true := by
      rcases key j b1 h1 with ⟨rfl, rfl⟩ | ⟨hjl, hj⟩
      · exact ⟨b, hl, hw⟩
      · exact ⟨b1, hj, hw1⟩
    obtain ⟨a0, p1, p2⟩ := g1
    rcases key j' b2 h2 with ⟨rfl, rfl⟩ | ⟨hjl', hj'⟩
    · rw [hnn] at hn2; cases hn2
    · exact h.deep j a0 j' b2 p1 hj' p2 hn2
  · rcases key j b' h1 with ⟨rfl, rfl⟩ | ⟨hjl, hj⟩
    · exact ⟨_, b, hl, hw, h3⟩
    · exact ⟨j, b', hj, h2, h3⟩
/-- A new object that is no cells. -/
theorem MRel.allocO {ρ : Rho} {m : MS} {w : World} {b : ABlk} {o : Obj} (h : MRel ρ m w) (hnn : b.cont.nested = false) (hr : ∀ cell, b.cont.rel ρ m.nx cell) (hop : b.op = false) (hfz : ∀ j, (w.alloc o).frozen? ⟨w.heap.size, j, none⟩ = false) (hp : ∀ q, b.cont = .obj q → q.ok ρ m.nx ⟨w.heap.size, 0, 0, 0⟩ (w.alloc o)) :
    MRel (ρ.new m.nx ⟨w.heap.size, 0, 0, 0⟩) ⟨(m.nx, some b) :: m.bl, m.nx + 1⟩ (w.alloc o) ∧
    Moves m.nx ρ (ρ.new m.nx ⟨w.heap.size, 0, 0, 0⟩) m ⟨(m.nx, some b) :: m.bl, m.nx + 1⟩ w (w.alloc o) := by
  have hext : ∀ l, l < m.nx → (ρ.new m.nx ⟨w.heap.size, 0, 0, 0⟩) l = ρ l := fun l hl => by unfold Rho.new; rw [if_neg (by omega)]
  have hsz : (w.alloc o).heap.size = w.heap.size + 1 := by show (w.heap.push _).size = _; simp
  refine ⟨⟨fun l b' hl => ?_, fun l1 b1 l2 b2 h1 h2 hw1 hne hnv => ?_, fun l1 b1 l2 b2 h1 h2 hw1 hn2 => ?_⟩, ⟨hext, Nat.le_succ _, rfl, rfl, ⟨rfl, Nat.le_refl _⟩, by rw [hsz]; omega, fun g hg _ => Below.heap_alloc _ _ _ hg, fun g hg => ?_⟩⟩
  · simp only [look_cons] at hl
    by_cases e : m.nx = l
    · subst e
      simp only [if_true, Option.some.injEq] at hl
      subst hl
      refine ⟨Nat.lt_succ_self _, ⟨.inl (by simp only [Rho.new, if_true]; omega), ?_, fun _ j => ?_, fun ho => (by rw [hop] at ho; cases ho), fun q hq => ?_⟩⟩
      · exact (hr _).ext hext (Nat.le_succ _) fun _ _ hx => hx
      · simp only [Rho.new, if_true]; exact hfz j
      · simp only [Rho.new, if_true]
        exact (hp q hq).ext hext (Nat.le_succ _) rfl (Nat.le_refl _) (fun _ _ _ => rfl)
    · rw [if_neg e] at hl
      obtain ⟨h1, h2⟩ := h.blk l b' hl
      rw [hext l h1]
      refine ⟨Nat.lt_succ_of_lt h1, ?_⟩
      rcases h2.lt with hlt | hv
      · exact h2.ext hext (Nat.le_succ _) (by rw [hsz]; omega) (Below.heap_alloc _ _ _ hlt) fun hn' g hg => Below.heap_alloc _ _ _ (h2.tlt hn' g hg)
      · exact ABlk.ok.any hv _
  · simp only [look_cons] at h1 h2
    by_cases e1 : m.nx = l1
    · rw [if_neg (by omega)] at h2
      obtain ⟨g1, g2⟩ := h.blk l2 b2 h2
      rw [hext l2 g1]
      have := g2.lt.resolve_right hnv
      subst e1
      simp only [Rho.new, if_true]
      omega
    · rw [if_neg e1] at h1
      obtain ⟨g1, g2⟩ := h.blk l1 b1 h1
      rw [hext l1 g1]
      by_cases e2 : m.nx = l2
      · have := g2.lt.resolve_right (wr_not_void hw1)
        subst e2
        simp only [Rho.new, if_true]
        omega
      · rw [if_neg e2] at h2
        rw [hext l2 (h.blk l2 b2 h2).1]
        exact h.apart l1 b1 l2 b2 h1 h2 hw1 hne hnv
  · simp only [look_cons] at h1 h2
    by_cases e2 : m.nx = l2
    · subst e2
      rw [if_pos rfl] at h2
      cases h2
      rw [hnn] at hn2; cases hn2
    · rw [if_neg e2] at h2
      have g2 := h.blk l2 b2 h2
      rw [hext l2 g2.1]
      by_cases e1 : m.nx = l1
      · subst e1
        simp only [Rho.new, if_true]
        cases hb : (ρ l2).tg.testBit w.heap.size with
        | false => rfl
        | true => have := g2.2.tlt hn2 _ hb; omega
      · rw [if_neg e1] at h1
        rw [hext l1 (h.blk l1 b1 h1).1]
        exact h.deep l1 b1 l2 b2 h1 h2 hw1 hn2
  · obtain ⟨l, b', h1, h2, h3⟩ := hg
    simp only [look_cons] at h1
    by_cases e : m.nx = l
    · subst e
      simp only [Rho.new, if_true] at h3
      exact .inr (by omega)
    · rw [if_neg e] at h1
      rw [hext l (h.blk l b' h1).1] at h3
      exact .inl ⟨l, b', h1, h2, h3⟩
/-- A type of numbers: one, or so many. -/
def widT (P : Program) (t : TypeId) : Option Nat := match P.underlying t with
  | some (.struct fs) => some fs.toList.length
  | some _ => some 0
  | none => none
/-- A new map. -/
def makeMapA (P : Program) (m : MS) (t : TypeId) : Option (AV × MS) := match P.underlying t with
  | some (.map kt et) => match widT P kt, widT P et with
    | some fk, some fv => some (.mp m.nx, ⟨(m.nx, some ⟨true, false, .obj (.mpo fk fv [])⟩) :: m.bl, m.nx + 1⟩)
    | _, _ => none
  | _ => none
/-- What a map holds at a key, or nothing's own. -/
def lookupA (P : Program) (m : MS) (t : TypeId) (x k : AV) : Option (AV × List Bool) := match P.underlying t, x, keyL k with
  | some (.map kt et), .mp l, some (f, kl) => match look m.bl l, zeroA P et with
    | some ⟨_, _, .obj (.mpo fk fv es)⟩, some z => match keyL z with
      | some (g, zl) => match Nat.beq f fk && (Nat.beq g fv && shapeI P kt f) with
        | true => some (avV fv ((lookM es kl).getD zl), [keysN (wid f) es])
        | false => none
      | none => none
    | _, _ => none
  | _, _, _ => none
def updateA (P : Program) (m : MS) (t : TypeId) (x k v : AV) : Option (MS × List Bool) := match P.underlying t, x, keyL k, keyL v with
  | some (.map kt _), .mp l, some (f, kl), some (g, vl) => match look m.bl l with
    | some ⟨true, op, .obj (.mpo fk fv es)⟩ => match Nat.beq f fk && (Nat.beq g fv && shapeI P kt f) with
      | true => some (⟨upd m.bl l (some ⟨true, op, .obj (.mpo fk fv (putM es kl vl))⟩), m.nx⟩, [keysN (wid f) es])
      | false => none
    | _ => none
  | _, _, _, _ => none
section
variable {P : Program} {ρ : Rho} {m : MS} {w : World}
theorem mpo_free {w : World} {b : Nat} {es : Array MapEntry} {n : Nat} (h : w.heap[b]? = some (.map es n)) (j : Nat) : w.frozen? ⟨b, j, none⟩ = false := by
  simp only [World.frozen?, h]
theorem obj_rel {q : QObj} (h : ∀ r c, (Cont.obj q).at r c = none) (ρ : Rho) (nx : Nat) (cell : Nat → Option Value) : (Cont.obj q).rel ρ nx cell := fun r c a ha => by rw [h] at ha; cases ha
theorem mpo_at (fk fv : Nat) (es : List (List Int × List Int)) (r c : Nat) : (Cont.obj (.mpo fk fv es)).at r c = none := rfl
theorem makeMapA_ok {t : TypeId} {v : AV} {m' : MS} (h : makeMapA P m t = some (v, m')) (hm : MRel ρ m w) : MemOk P (Instr.makeMap t none) ρ m w v m' := by
  unfold makeMapA at h
  split at h
  · split at h
    · rename_i fk fv _ _
      cases h
      have hnew : (w.alloc (.map #[] 0)).heap[w.heap.size]? = some (.map #[] 0) := by show (w.heap.push _)[w.heap.size]? = _; simp
      obtain ⟨h1, h2⟩ := MRel.allocO (b := ⟨true, false, .obj (.mpo fk fv [])⟩) (o := .map #[] 0) hm rfl (fun cell => obj_rel (mpo_at fk fv []) ρ m.nx cell) rfl (mpo_free hnew) (fun q hq => by cases hq; exact hnew)
      refine ⟨_, .map (some w.heap.size), _, ?_, ?_, h1, h2⟩
      · rfl
      · simp only [AV.rel, Rho.new, if_true]
        exact ⟨Nat.lt_succ_self _, trivial⟩
    · cases h
  · cases h
theorem lookupA_ok {t : TypeId} {x k v : AV} {bs : List Bool} {x' k' : Value} (h : lookupA P m t x k = some (v, bs)) (hm : MRel ρ m w) (hx : AV.rel ρ m.nx x x') (hk : AV.rel ρ m.nx k k') (hbs : bs.all id = true) : PureOk P (Instr.lookup t x' k' false) ρ m.nx w v := by
  unfold lookupA at h
  split at h
  · rename_i kt et l f kl hu hkl
    split at h
    · rename_i wr op fk fv es z hl hz
      split at h
      · rename_i g zl hzl
        split at h
        · rename_i hc
          cases h
          simp only [Bool.and_eq_true] at hc
          obtain ⟨c1, c2, c3⟩ := hc
          have c1 := Nat.eq_of_beq_eq_true c1
          have c2 := Nat.eq_of_beq_eq_true c2
          subst c1 c2
          have hb : w.heap[(ρ l).b]? = some (.map (entL f g 0 es).toArray es.length) := ((hm.blk l _ hl).2).obj _ rfl
          obtain ⟨z', hz1, rfl⟩ := zeroA_ok (P := P) hz
          have ez := keyL_ok hzl (ofConst_rel (ρ := ρ) (nx := m.nx) z')
          subst ez
          rw [keyL_ok hkl hk]
          simp only [AV.rel] at hx
          rw [hx.2]
          refine mkPure (mkV g ((lookM es kl).getD zl)) ?_ (avV_rel _ _)
          have hkw := keyL_len hkl
          have hks := keysN_ok (all_cons hbs).1
          have h1 := checkKey_I (P := P) (w := w) c3 hkw (entL f g 0 es).toArray.isEmpty 9998
          have h2 := find_I (P := P) (w := w) (fv := g) c3 hkw hks
          simp only [Instr.lookup, Sem.run_bind, run_underlying hu, Result.andThen_ok, Go.MapKept.run_getObj_map hb, Sem.run_pure, h1, h2]
          cases hf : findM kl es 0 with
          | none => simp [lookM, hf, hz1]
          | some q => simp [lookM, hf]
        · cases h
      · cases h
    · cases h
  · cases h
theorem putM_len (es : List (List Int × List Int)) (k v : List Int) : (putM es k v).length = es.length + (match findM k es 0 with | some _ => 0 | none => 1) := by
  unfold putM
  cases findM k es 0 with
  | none => simp
  | some q => simp
theorem updateA_ok {t : TypeId} {x k v : AV} {m' : MS} {bs : List Bool} {x' k' v' : Value} (h : updateA P m t x k v = some (m', bs)) (hm : MRel ρ m w) (hx : AV.rel ρ m.nx x x') (hk : AV.rel ρ m.nx k k') (hv : AV.rel ρ m.nx v v') (hbs : bs.all id = true) :
    ∃ w', (Instr.mapUpdate t x' k' v').run P w = .ok () w' ∧ MRel ρ m' w' ∧ Moves m.nx ρ ρ m m' w w' := by
  unfold updateA at h
  split at h
  · rename_i kt et l f kl g vl hu hkl hvl
    split at h
    · rename_i op fk fv es hl
      split at h
      · rename_i hc
        cases h
        simp only [Bool.and_eq_true] at hc
        obtain ⟨c1, c2, c3⟩ := hc
        have c1 := Nat.eq_of_beq_eq_true c1
        have c2 := Nat.eq_of_beq_eq_true c2
        subst c1 c2
        have hb : w.heap[(ρ l).b]? = some (.map (entL f g 0 es).toArray es.length) := ((hm.blk l _ hl).2).obj _ rfl
        have hbl := (hm.blk l _ hl).2
        rw [keyL_ok hkl hk, keyL_ok hvl hv]
        simp only [AV.rel] at hx
        rw [hx.2]
        have hkw := keyL_len hkl
        have hks := keysN_ok (all_cons hbs).1
        have h1 := checkKey_I (P := P) (w := w) c3 hkw false 9998
        have h2 := find_I (P := P) (w := w) (fv := g) c3 hkw hks
        have hlt : (ρ l).b < w.heap.size := (Array.getElem?_eq_some_iff.1 hb).1
        have fin : ∀ n, n = (putM es kl vl).length → ∀ arr : Array MapEntry, arr = (entL f g 0 (putM es kl vl)).toArray →
            ∃ w', (setObj (ρ l).b (.map arr n)).run P w = .ok () w' ∧ MRel ρ ⟨upd m.bl l (some ⟨true, op, .obj (.mpo f g (putM es kl vl))⟩), m.nx⟩ w' ∧ Moves m.nx ρ ρ m ⟨upd m.bl l (some ⟨true, op, .obj (.mpo f g (putM es kl vl))⟩), m.nx⟩ w w' := fun n hn arr ha => by
          subst hn ha
          refine ⟨_, Go.MapKept.run_setObj_map _ hb, ?_⟩
          have hg := Go.MapKept.heap_set (o' := .map (entL f g 0 (putM es kl vl)).toArray (putM es kl vl).length) hb
          have hop : op = false := by
            cases op with
            | false => rfl
            | true =>
              obtain ⟨_, _, cur, e, r3, _⟩ := hbl.room rfl
              rw [hb] at r3; cases r3
          subst hop
          exact MRel.put (bn := ⟨true, false, .obj (.mpo f g (putM es kl vl))⟩) rfl hm hl rfl (by simp) rfl rfl ⟨rfl, Nat.le_refl _⟩ (fun q hq => hg.2 q hq)
            ⟨.inl (by simpa using hlt), obj_rel (mpo_at _ _ _) _ _ _, fun _ j => mpo_free hg.1 j, (fun ho => by cases ho), (fun q hq => by cases hq; exact hg.1)⟩
        simp only [Instr.mapUpdate, Sem.run_bind, run_underlying hu, Result.andThen_ok, Go.MapKept.run_getObj_map hb, Sem.run_pure, h1, h2]
        cases hf : findM kl es 0 with
        | none =>
          simp only [Option.map_none]
          refine fin _ (by simp [putM_len, hf]) _ ?_
          rw [entL_put rfl]
          simp [putM, hf]
        | some q =>
          obtain ⟨i, u⟩ := q
          obtain ⟨_, hat⟩ := findM_at hf
          simp only [Nat.sub_zero] at hat
          simp only [Option.map_some]
          have hold : (((entL f g 0 es).toArray[i]?.map (·.key)).getD (mkV f kl)) = mkV f kl := by
            simp [entL_get, hat]
          rw [hold]
          simp only [Instr.keyThatStays, sameBits_mk f kl 9999, if_true, Sem.run_bind, Sem.run_pure, Result.andThen_ok]
          refine fin _ (by simp [putM_len, hf]) _ ?_
          rw [entL_set hat]
          simp [putM, hf]
      · cases h
    · cases h
  · cases h
/-- A walk over a map. -/
def rangeA (P : Program) (m : MS) (t : TypeId) (x : AV) : Option (AV × MS) := match P.underlying t, x with
  | some (.map _ _), .mp l => match look m.bl l with
    | some ⟨_, _, .obj (.mpo _ _ es)⟩ => some (.ptr m.nx 1 0 0, ⟨(m.nx, some ⟨true, false, .obj (.mit [.mp l] es.length [])⟩) :: m.bl, m.nx + 1⟩)
    | _ => none
  | _, _ => none
/-- The entry where a walk stands. -/
def entryA (m : MS) (x : AV) : Option (AV × List Bool) := match x with
  | .ptr l 1 0 0 => match look m.bl l with
    | some ⟨_, _, .obj (.mit [.mp lm] n (j :: _))⟩ => match look m.bl lm with
      | some ⟨_, _, .obj (.mpo fk fv es)⟩ => some (.tup [avV fk (es.getD j ([], [])).1, avV fv (es.getD j ([], [])).2], [Nat.beq es.length n, Nat.blt j es.length])
      | _ => none
    | _ => none
  | _ => none
theorem mit_free {w : World} {b n k : Nat} {r : Option Nat} {seen : Array Nat} (h : w.heap[b]? = some (.mapIter r n seen k)) (j : Nat) : w.frozen? ⟨b, j, none⟩ = false := by
  simp only [World.frozen?, h]
theorem mit_at (tm : List AV) (n : Nat) (seen : List Nat) (r c : Nat) : (Cont.obj (.mit tm n seen)).at r c = none := rfl
theorem rangeA_ok {t : TypeId} {x v : AV} {m' : MS} {x' : Value} (h : rangeA P m t x = some (v, m')) (hm : MRel ρ m w) (hx : AV.rel ρ m.nx x x') : MemOk P (Instr.range t x') ρ m w v m' := by
  unfold rangeA at h
  split at h
  · rename_i kt et l hu
    split at h
    · rename_i wr op fk fv es hl
      cases h
      have hb : w.heap[(ρ l).b]? = some (.map (entL fk fv 0 es).toArray es.length) := ((hm.blk l _ hl).2).obj _ rfl
      have hx0 := hx
      simp only [AV.rel] at hx
      rw [hx.2]
      have hnew : (w.alloc (.mapIter (some (ρ l).b) es.length #[] es.length)).heap[w.heap.size]? = some (.mapIter (some (ρ l).b) es.length #[] es.length) := by show (w.heap.push _)[w.heap.size]? = _; simp
      obtain ⟨h1, h2⟩ := MRel.allocO (b := ⟨true, false, .obj (.mit [.mp l] es.length [])⟩) (o := .mapIter (some (ρ l).b) es.length #[] es.length) hm rfl (fun cell => obj_rel (mit_at _ _ _) ρ m.nx cell) rfl (mit_free hnew) (fun q hq => by
        cases hq
        exact ⟨rfl, (ρ l).b, hnew, by simp only [AV.rels, AV.rel]; exact ⟨_, _, rfl, ⟨hx.1, rfl⟩, rfl⟩⟩)
      refine ⟨_, .pointer (some ⟨w.heap.size, 0, none⟩), _, ?_, ?_, h1, h2⟩
      · simp only [Instr.range, Sem.run_bind, run_underlying hu, Result.andThen_ok, Go.MapKept.run_getObj_map hb, Sem.run_pure]
        rfl
      · simp only [AV.rel, Rho.new, if_true]
        exact ⟨Nat.lt_succ_self _, by simp⟩
    · cases h
  · cases h
theorem entL_find {f g : Nat} : ∀ {es : List (List Int × List Int)} {i j : Nat}, j < es.length → (entL f g i es).find? (·.born == i + j) = some { key := mkV f (es.getD j ([], [])).1, val := mkV g (es.getD j ([], [])).2, born := i + j }
  | [], i, j, h => by cases h
  | (a, v) :: es, i, 0, _ => by simp [entL]
  | (a, v) :: es, i, j + 1, h => by
    have := entL_find (f := f) (g := g) (es := es) (i := i + 1) (j := j) (by simpa using h)
    simp only [entL, List.find?_cons]
    rw [show (i == i + (j + 1)) = false by simp]
    simp only [List.getD_cons_succ]
    rw [show i + 1 + j = i + (j + 1) by omega] at this
    exact this
theorem entryA_ok {x v : AV} {bs : List Bool} {x' : Value} (h : entryA m x = some (v, bs)) (hm : MRel ρ m w) (hx : AV.rel ρ m.nx x x') (hbs : bs.all id = true) : PureOk P (Instr.entry x') ρ m.nx w v := by
  unfold entryA at h
  split at h
  · rename_i l
    split at h
    · rename_i wr op lm n j seen hl
      split at h
      · rename_i wr' op' fk fv es hlm
        cases h
        have hb : w.heap[(ρ lm).b]? = some (.map (entL fk fv 0 es).toArray es.length) := ((hm.blk lm _ hlm).2).obj _ rfl
        obtain ⟨h0, bm, hi, hr⟩ := ((hm.blk l _ hl).2).obj _ rfl
        simp only [AV.rels, AV.rel] at hr
        obtain ⟨_, _, e, ⟨_, rfl⟩, _⟩ := hr
        cases e
        simp only [AV.rel] at hx
        rw [hx.2, h0]
        have hn := Nat.eq_of_beq_eq_true (all_cons hbs).1
        have hj : j < es.length := Nat.le_of_ble_eq_true (all_cons (all_cons hbs).2).1
        have hf := entL_find (f := fk) (g := fv) (i := 0) hj
        rw [Nat.zero_add] at hf
        refine mkPure (.tuple #[mkV fk (es.getD j ([], [])).1, mkV fv (es.getD j ([], [])).2]) ?_ ?_
        · have hgi : (getObj (ρ l).b).run P w = .ok (.mapIter (some (ρ lm).b) n (j :: seen).reverse.toArray n) w := by simp [getObj, Sem.run, hi]
          have hback : ((j :: seen).reverse.toArray).back? = some j := by simp
          simp only [Instr.entry, Nat.zero_mul, Nat.add_zero, Sem.run_bind, hgi, Result.andThen_ok, hback, Go.MapKept.run_getObj_map hb, Sem.run_pure, hn, bne_self_eq_false, Bool.false_eq_true, if_false]
          simp [hf]
        · simp only [AV.rel, AV.rels]
          exact ⟨_, rfl, _, _, rfl, avV_rel _ _, _, _, rfl, avV_rel _ _, rfl⟩
      · cases h
    · cases h
  · cases h
end
end Go.Proofs.Ytmjpikkloofakaa

namespace Go.Proofs.Ytmjpikkloofakaa
open Go Go.RowKit

/-- Contracts of functions; under none, of a loop's rounds. -/
abbrev Env := Option FuncId → MS → List AV → Option (AV × Option MS × List Bool)
/-- No fence; in a round, or not. -/
abbrev FW (r : Option Nat) : Fence := { fn := fun _ => True, depth := none, alive := false, round := r }
theorem calls_fw {P : Program} {f : FuncId} {args : Array Value} {w : World} {R : Ending → World → Prop} (r : Option Nat) (n : Nat) (h : Calls P f args w R) : CallsIn (FW r) n P f args w R := by
  have h0 : CallsIn Fence.wide n P f args w R := callsIn_wide.2 h
  cases r with
  | none => exact h0
  | some l => exact h0
/-- What is said of a function's calls is so. -/
def Went (P : Program) (f : FuncId) (xs : List Value) (w : World) (Q : Value → World → Prop) : Prop :=
  (∃ j, (callFunc f xs.toArray).run P w = .ok (.enter j xs.toArray) w ∧ Calls P j xs.toArray w fun e w' => ∃ x, e = .returned x ∧ Q x w') ∨ (∃ x w', (callFunc f xs.toArray).run P w = .ok (.value x) w' ∧ Q x w')
theorem Went.mono {P : Program} {f : FuncId} {xs : List Value} {w : World} {Q Q' : Value → World → Prop} (h : Went P f xs w Q) (hq : ∀ x w', Q x w' → Q' x w') : Went P f xs w Q' := by
  rcases h with ⟨j, h1, h2⟩ | ⟨x, w', h1, h2⟩
  · exact .inl ⟨j, h1, Calls.mono h2 fun e w' ⟨x, he, hx⟩ => ⟨x, he, hq x w' hx⟩⟩
  · exact .inr ⟨x, w', h1, hq x w' h2⟩
def FSound (P : Program) (f : FuncId) (m : MS) (args : List AV) (v : AV) (m' : MS) : Prop :=
  ∀ (ρ : Rho) (w : World) (xs : List Value), MRel ρ m w → AV.rels ρ m.nx args xs →
    Went P f xs w fun x w' => ∃ ρ', AV.rel ρ' m'.nx v x ∧ MRel ρ' m' w' ∧ Moves m.nx ρ ρ' m m' w w'
/-- A round of a loop over a function, as the function sees it. -/
def YWent (P : Program) (xs : List Value) (w : World) (Q : Value → World → Prop) : Prop :=
  ∃ L ys, xs = .func (.yield L) #[] #[] :: ys ∧ ∀ (r : Option Nat) (n : Nat), ∃ l f tmps asg body, (Instr.yield L ys.toArray).run P w = .ok (.round l f tmps asg body) w ∧ RoundIn (FW r) n P l f tmps asg body w fun e w' => ∃ x, e = .returned x ∧ Q x w'
def YSound (P : Program) (m : MS) (args : List AV) (v : AV) (m' : MS) : Prop :=
  ∀ (ρ : Rho) (w : World) (xs : List Value), MRel ρ m w → AV.rels ρ m.nx args xs →
    YWent P xs w fun x w' => ∃ ρ', AV.rel ρ' m'.nx v x ∧ MRel ρ' m' w' ∧ Moves m.nx ρ ρ' m m' w w'
structure ESound (P : Program) (E : Env) : Prop where
  fn : ∀ f m args v m' bs, E (some f) m args = some (v, m', bs) → bs.all id = true → FSound P f m args v (m'.getD m)
  yl : ∀ m args v m' bs, E none m args = some (v, m', bs) → bs.all id = true → YSound P m args v (m'.getD m)

def evA (tm : List AV) : Operand → AV
  | .tmp t => tm.getD t .unk
  | .const v => ofConst v
  | .global g => .val (.pointer (some ⟨g, 0, none⟩))
  | .func f => .clo f [] []
/-- By which variable an operation is guarded, and what it must hold. -/
abbrev Key := Option (Nat × Bool)
def sameKey (t : Nat) (w : Bool) : Key → Bool
  | some (t', w') => Nat.beq t t' && (match w, w' with | true, true => true | false, false => true | _, _ => false)
  | none => false
def gdOf (key : Key) : AV → List Bool
  | .gd t w g _ => match sameKey t w key with
    | true => []
    | false => [g]
  | _ => []
def pickA (t : Bool) (a b : AV) : Option AV := match strip a, strip b with
  | .val (.bool x), .val (.bool y) => some (.val (.bool (bif t then x else y)))
  | .val (.int k x), .val (.int k' y) => match decide (k = k') with
    | true => some (.val (.int k (bif t then x else y)))
    | false => none
  | .val (.string x), .val (.string y) => some (.val (.string (bif t then x else y)))
  | .unk, y => match t with
    | true => none
    | false => some y
  | x, .unk => match t with
    | true => some x
    | false => none
  | _, _ => none
def imps (g : Bool) (l : List Bool) : List Bool := l.map fun b => !g || b
abbrev Res := Option (AV × Option MS × List Bool)
def pure1 : Option AV → Res
  | some v => some (v, none, [])
  | none => none
def pure2 : Option (AV × List Bool) → Res
  | some (v, bs) => some (v, none, bs)
  | none => none
/-- Comparisons are taken as 'the same', where that is asked for: by an entry of the number 1000004. -/
def hintE (E : Env) : Bool := match E (some 1000004) ⟨[], 0⟩ [] with
  | some _ => true
  | none => false
def asEqA (op : BinOp) : Option (AV × List Bool) → Option (AV × List Bool)
  | some (.val (.bool b), bs) => match op with
    | .eql => some (.val (.bool true), b :: bs)
    | .neq => some (.val (.bool false), (!b) :: bs)
    | _ => some (.val (.bool b), bs)
  | r => r
def binE (E : Env) (op : BinOp) (r : Option (AV × List Bool)) : Option (AV × List Bool) := match hintE E with
  | true => asEqA op r
  | false => r
theorem binE_ok {E : Env} {op : BinOp} {r : Option (AV × List Bool)} {v : AV} {bs : List Bool} (h : binE E op r = some (v, bs)) (hb : bs.all id = true) : ∃ bs0, r = some (v, bs0) ∧ bs0.all id = true := by
  unfold binE at h
  split at h
  · unfold asEqA at h
    split at h
    · rename_i b bs0
      split at h
      · cases h
        obtain ⟨h1, h2⟩ := all_cons hb
        have h1 : b = true := h1
        subst h1
        exact ⟨_, rfl, h2⟩
      · cases h
        obtain ⟨h1, h2⟩ := all_cons hb
        have h1 : b = false := by simpa using h1
        subst h1
        exact ⟨_, rfl, h2⟩
      · cases h
        exact ⟨_, rfl, hb⟩
    · exact ⟨_, h, hb⟩
  · exact ⟨_, h, hb⟩
def mem1 : Option (AV × MS) → Res
  | some (v, m) => some (v, some m, [])
  | none => none
def mem2 : Option (AV × MS × List Bool) → Res
  | some (v, m, bs) => some (v, some m, bs)
  | none => none
def convR (P : Program) (s d : TypeId) (m : MS) (a : AV) : Res := match convA P s d a with
  | some v => some (v, none, [])
  | none => match convM P m s d a with
    | some (v, bs) => some (v, none, bs)
    | none => mem1 (convN P m s d a)
def maxR (k : IntKind) : Int → List AV → Option AV
  | x, [] => some (.val (.int k x))
  | x, .val (.int _ y) :: r => maxR k (max x y) r
  | _, _ => none
def minR (k : IntKind) : Int → List AV → Option AV
  | x, [] => some (.val (.int k x))
  | x, .val (.int _ y) :: r => minR k (min x y) r
  | _, _ => none
def maxA : List AV → Option AV
  | .val (.int k x) :: r => maxR k x r
  | _ => none
def minA : List AV → Option AV
  | .val (.int k x) :: r => minR k x r
  | _ => none
def lenA (P : Program) (t : TypeId) (a : AV) : Option AV := match P.underlying t, a with
  | some .string, .val (.string s) => some (.val (.int .i64 (s.size : Int)))
  | some (.array n _), _ => some (.val (.int .i64 (n : Int)))
  | some (.slice _), .sl _ _ _ _ _ n _ => some (.val (.int .i64 (n : Int)))
  | some (.slice _), .val (.slice none n 0) => some (.val (.int .i64 (n : Int)))
  | _, _ => none
def builtinA (P : Program) (b : Builtin) (ts : Array TypeId) (args : List AV) (m : MS) : Res := match b with
  | .len => match args, ts[0]? with
    | a :: _, some t => pure1 (lenA P t a)
    | _, _ => none
  | .max => pure1 (maxA args)
  | .min => pure1 (minA args)
  | .append => match args, ts.toList with
    | [a, b], [t, t'] => match appendNilH P m t t' a b with
      | some v => some (v, none, [])
      | none => mem2 (appendAll P m t t' a b)
    | _, _ => none
  | .copy => match args, ts.toList with
    | [a, b], [t, _] => mem2 (copyA P m t a b)
    | _, _ => none
  | .unsafeSliceData => match args with
    | [a] => pure2 (dataA m a)
    | _ => none
  | .unsafeString => match args, ts.toList with
    | [p, n], [pt, _] => ustrA P m pt p n
    | _, _ => none
  | _ => none
def makeFuncA (fn : Fn) (first cap : List AV) : Option AV := match fn with
  | .func f => some (.clo f first cap)
  | _ => none
def execA (P : Program) (E : Env) (o : Oper) (ev : Operand → AV) (m : MS) : Res := match o.op with
  | .move x => some (ev x, none, [])
  | .assign x => some (ev x, none, [])
  | .alloc t => mem1 (allocA P m t)
  | .box _ x => mem1 (boxA m (ev x))
  | .build t ps => pure1 (buildA P t (ps.toList.map fun p => (p.1, ev p.2)))
  | .buildSlice t n ps => mem1 (buildSliceA P m t n (ps.toList.map fun p => (p.1, ev p.2)))
  | .load t x => pure2 (loadA P t m (ev x))
  | .store t x y => match storeA P t m (ev x) (ev y) with
    | some (m', bs) => some (.val undef, some m', bs)
    | none => none
  | .nilCheck x => match ev x with
    | .ptr l w r c => some (.ptr l w r c, none, [])
    | .clo f a b => some (.clo f a b, none, [])
    | _ => none
  | .binOp op t x y _ => pure2 (binE E op (binA P op t y (ev x) (ev y)))
  | .unOp op _ x => pure1 (unA op (ev x))
  | .convert s d x => convR P s d m (ev x)
  | .makeSlice t x y => mem2 (makeA P m t (ev x) (ev y))
  | .slice t x lo hi mx => match mx with
    | none => pure2 (sliceA P t (ev x) (lo.map ev) (hi.map ev))
    | some _ => none
  | .fieldAddr t x f => pure1 (fieldAddrA P t (ev x) f)
  | .field t x f => pure1 (fieldA P t (ev x) f)
  | .indexAddr t x i => pure2 (indexAddrA P t (ev x) (ev i))
  | .index t x i => pure2 (indexA P t (ev x) (ev i))
  | .extract x i => match ev x with
    | .tup vs => pure1 (vs[i]?)
    | _ => none
  | .makeFunc fn first cap => pure1 (makeFuncA fn (first.toList.map ev) (cap.toList.map ev))
  | .makeMap t r => match r with
    | none => mem1 (makeMapA P m t)
    | some _ => none
  | .lookup t x k ok => match ok with
    | false => pure2 (lookupA P m t (ev x) (ev k))
    | true => none
  | .range t x => mem1 (rangeA P m t (ev x))
  | .entry x => pure2 (entryA m (ev x))
  | .mapUpdate t x k y => match updateA P m t (ev x) (ev k) (ev y) with
    | some (m', bs) => some (.val undef, some m', bs)
    | none => none
  | .call c => match c.callee with
    | .value f => match ev f with
      | .clo g first cap => E (some g) m (first ++ c.args.toList.map ev ++ cap)
      | .yld l => E none m (.yld l :: c.args.toList.map ev)
      | _ => none
    | .builtin b => builtinA P b c.argTypes (c.args.toList.map ev) m
    | _ => none
  | _ => none
section
variable {P : Program} {E : Env} {ρ : Rho} {m : MS} {w : World}
theorem maxR_ok {k : IntKind} {nx : Nat} : ∀ {r : List AV} {x : Int} {v : AV} {xs : List Value}, maxR k x r = some v → AV.rels ρ nx r xs → PureOk P (xs.foldlM Builtin.max2 (.int k x)) ρ nx w v
  | [], x, v, xs, h, hr => by
    simp only [AV.rels] at hr
    subst hr
    simp only [maxR] at h
    cases h
    exact mkPure (.int k x) (by simp) (by simp [AV.rel])
  | a :: r, x, v, xs, h, hr => by
    simp only [AV.rels] at hr
    obtain ⟨y, ys, rfl, h1, h2⟩ := hr
    have hsh : ∃ k' q, a = .val (.int k' q) := by
      cases a with
      | val u => cases u with
        | int k' q => exact ⟨k', q, rfl⟩
        | _ => simp [maxR] at h
      | _ => simp [maxR] at h
    obtain ⟨k', y, rfl⟩ := hsh
    simp only [maxR] at h
    simp only [AV.rel] at h1
    subst h1
    obtain ⟨z, g1, g2⟩ := maxR_ok h h2
    refine mkPure z ?_ g2
    have e : (if y > x then y else x) = max x y := by omega
    simp only [List.foldlM_cons, Builtin.max2, e, pure_bind]
    exact g1
theorem maxA_ok {args : List AV} {v : AV} {xs : List Value} {nx : Nat} (h : maxA args = some v) (hr : AV.rels ρ nx args xs) (ts : Array TypeId) (t : TypeId) : PureOk P (Builtin.max_ ts t xs.toArray) ρ nx w v := by
  unfold maxA at h
  split at h
  · simp only [AV.rels, AV.rel] at hr
    obtain ⟨_, ys, rfl, rfl, hr⟩ := hr
    exact maxR_ok h hr
  · cases h
theorem minR_ok {k : IntKind} {nx : Nat} : ∀ {r : List AV} {x : Int} {v : AV} {xs : List Value}, minR k x r = some v → AV.rels ρ nx r xs → PureOk P (xs.foldlM Builtin.min2 (.int k x)) ρ nx w v
  | [], x, v, xs, h, hr => by
    simp only [AV.rels] at hr
    subst hr
    simp only [minR] at h
    cases h
    exact mkPure (.int k x) (by simp) (by simp [AV.rel])
  | a :: r, x, v, xs, h, hr => by
    simp only [AV.rels] at hr
    obtain ⟨y, ys, rfl, h1, h2⟩ := hr
    have hsh : ∃ k' q, a = .val (.int k' q) := by
      cases a with
      | val u => cases u with
        | int k' q => exact ⟨k', q, rfl⟩
        | _ => simp [minR] at h
      | _ => simp [minR] at h
    obtain ⟨k', y, rfl⟩ := hsh
    simp only [minR] at h
    simp only [AV.rel] at h1
    subst h1
    obtain ⟨z, g1, g2⟩ := minR_ok h h2
    refine mkPure z ?_ g2
    have e : (if y < x then y else x) = min x y := by omega
    simp only [List.foldlM_cons, Builtin.min2, e, pure_bind]
    exact g1
theorem minA_ok {args : List AV} {v : AV} {xs : List Value} {nx : Nat} (h : minA args = some v) (hr : AV.rels ρ nx args xs) (ts : Array TypeId) (t : TypeId) : PureOk P (Builtin.min_ ts t xs.toArray) ρ nx w v := by
  unfold minA at h
  split at h
  · simp only [AV.rels, AV.rel] at hr
    obtain ⟨_, ys, rfl, rfl, hr⟩ := hr
    exact minR_ok h hr
  · cases h
theorem lenA_ok {t : TypeId} {a v : AV} {x : Value} {rest : List Value} {nx : Nat} {ts : Array TypeId} (h : lenA P t a = some v) (ht : ts[0]? = some t) (hx : AV.rel ρ nx a x) (t' : TypeId) : PureOk P (Builtin.len_ ts t' (x :: rest).toArray) ρ nx w v := by
  unfold lenA at h
  split at h
  · rename_i s hu
    simp only [AV.rel] at hx; subst hx; cases h
    exact mkPure _ (by simp [Builtin.len_, ht, run_underlying hu]; rfl) (by simp [AV.rel, goInt])
  · rename_i n e _ hu
    cases h
    exact mkPure _ (by simp [Builtin.len_, ht, run_underlying hu]; rfl) (by simp [AV.rel, goInt])
  · rename_i e nn l wd r s n cap hu
    simp only [AV.rel] at hx
    obtain ⟨_, A, c, rfl, _⟩ := hx
    cases h
    exact mkPure _ (by simp [Builtin.len_, ht, run_underlying hu]; rfl) (by simp [AV.rel, goInt])
  · rename_i e n hu
    simp only [AV.rel] at hx; subst hx; cases h
    exact mkPure _ (by simp [Builtin.len_, ht, run_underlying hu]; rfl) (by simp [AV.rel, goInt])
  · cases h
theorem builtinA_ok {b : Builtin} {ts : Array TypeId} {args : List AV} {v : AV} {mo : Option MS} {bs : List Bool} {xs : List Value} (h : builtinA P b ts args m = some (v, mo, bs)) (hm : MRel ρ m w) (hr : AV.rels ρ m.nx args xs) (hbs : bs.all id = true) (t : TypeId) (cs : Array Bool) :
    ∃ ρ' x w', (builtin b ts t cs xs.toArray).run P w = .ok (.value x) w' ∧ AV.rel ρ' (mo.getD m).nx v x ∧ MRel ρ' (mo.getD m) w' ∧ Moves m.nx ρ ρ' m (mo.getD m) w w' := by
  have pure_case : ∀ {s : Sem Value} {v : AV}, PureOk P s ρ m.nx w v → mo = none → (builtin b ts t cs xs.toArray = do pure (.value (← s))) → ∃ ρ' x w', (builtin b ts t cs xs.toArray).run P w = .ok (.value x) w' ∧ AV.rel ρ' (mo.getD m).nx v x ∧ MRel ρ' (mo.getD m) w' ∧ Moves m.nx ρ ρ' m (mo.getD m) w w' := fun hp hmo he => by
    obtain ⟨x, h1, h2⟩ := hp
    subst hmo
    exact ⟨ρ, x, w, by rw [he]; simp [h1], h2, hm, Moves.refl (Nat.le_refl _)⟩
  unfold builtinA at h
  split at h
  · split at h
    · rename_i a rest t0 ht0
      cases hv : lenA P t0 a with
      | none => rw [hv] at h; cases h
      | some v' =>
        rw [hv] at h
        cases h
        simp only [AV.rels] at hr
        obtain ⟨y, ys, rfl, h1, h2⟩ := hr
        exact pure_case (lenA_ok hv ht0 h1 t) rfl rfl
    · cases h
  · cases hv : maxA args with
    | none => rw [hv] at h; cases h
    | some v' =>
      rw [hv] at h
      cases h
      exact pure_case (maxA_ok hv hr ts t) rfl rfl
  · cases hv : minA args with
    | none => rw [hv] at h; cases h
    | some v' =>
      rw [hv] at h
      cases h
      exact pure_case (minA_ok hv hr ts t) rfl rfl
  · split at h
    · rename_i a b t1 t2 hts
      have hts : ts = #[t1, t2] := by rw [← Array.toArray_toList (xs := ts), hts]
      subst hts
      simp only [AV.rels] at hr
      obtain ⟨x, _, rfl, h1, y, _, rfl, h2, rfl⟩ := hr
      cases hz : appendNilH P m t1 t2 a b with
      | some v' =>
        rw [hz] at h
        cases h
        exact pure_case (appendNilH_ok (ty := t) hz h1 h2) rfl rfl
      | none =>
      rw [hz] at h
      dsimp only at h
      cases hv : appendAll P m t1 t2 a b with
      | none => rw [hv] at h; cases h
      | some q =>
        obtain ⟨v', m', bs'⟩ := q
        rw [hv] at h
        cases h
        obtain ⟨ρ', z, w', g1, g2⟩ := appendAll_ok (ty := t) hv hm h1 h2 hbs
        refine ⟨ρ', z, w', ?_, g2⟩
        show ((do pure (Next.value (← Builtin.append_ #[t1, t2] t #[x, y])) : Sem Next)).run P w = _
        simp [g1]
    · cases h
  · split at h
    · rename_i a b t1 t2 hts
      have hts : ts = #[t1, t2] := by rw [← Array.toArray_toList (xs := ts), hts]
      subst hts
      cases hv : copyA P m t1 a b with
      | none => rw [hv] at h; cases h
      | some q =>
        obtain ⟨v', m', bs'⟩ := q
        rw [hv] at h
        cases h
        simp only [AV.rels] at hr
        obtain ⟨x, _, rfl, h1, y, _, rfl, h2, rfl⟩ := hr
        obtain ⟨ρ', z, w', g1, g2⟩ := copyA_ok hv hm h1 h2 hbs t2 t
        refine ⟨ρ', z, w', ?_, g2⟩
        show ((do pure (Next.value (← Builtin.copy_ #[t1, t2] t #[x, y])) : Sem Next)).run P w = _
        simp [g1]
    · cases h
  · split at h
    · rename_i a
      cases hv : dataA m a with
      | none => rw [hv] at h; cases h
      | some q =>
        obtain ⟨v', bs'⟩ := q
        rw [hv] at h
        cases h
        simp only [AV.rels] at hr
        obtain ⟨x, _, rfl, h1, rfl⟩ := hr
        exact pure_case (dataA_ok hv hm h1 hbs ts t) rfl rfl
    · cases h
  · split at h
    · rename_i p n pt t2 hts
      have hts : ts = #[pt, t2] := by rw [← Array.toArray_toList (xs := ts), hts]
      subst hts
      simp only [AV.rels] at hr
      obtain ⟨x, _, rfl, h1, y, _, rfl, h2, rfl⟩ := hr
      obtain ⟨ρ', z, w', g1, g2⟩ := ustrA_ok (it := t2) (ty := t) h hm h1 h2 hbs
      refine ⟨ρ', z, w', ?_, g2⟩
      show ((do pure (Next.value (← Builtin.unsafeString_ #[pt, t2] t #[x, y])) : Sem Next)).run P w = _
      simp [g1]
    · cases h
  · cases h
theorem rels_map {ev : Operand → AV} {a : Act} : ∀ l : List Operand, (∀ x, x ∈ l → AV.rel ρ m.nx (ev x) (a.eval x)) → AV.rels ρ m.nx (l.map ev) (l.map a.eval)
  | [], _ => by simp [AV.rels]
  | x :: l, hev => by simp only [List.map_cons, AV.rels]; exact ⟨_, _, rfl, hev x (by simp), rels_map l (fun y hy => hev y (by simp [hy]))⟩
theorem prel_map {ev : Operand → AV} {a : Act} : ∀ l : List (Nat × Operand), (∀ x, x ∈ l.map (·.2) → AV.rel ρ m.nx (ev x) (a.eval x)) → PRel ρ m.nx (l.map fun p => (p.1, ev p.2)) (l.map fun p => (p.1, a.eval p.2))
  | [], _ => by simp [PRel]
  | x :: l, hev => by simp only [List.map_cons, PRel]; exact ⟨_, _, rfl, hev x.2 (by simp), prel_map l (fun y hy => hev y (by rw [List.map_cons]; exact List.mem_cons_of_mem _ hy))⟩
theorem opt_map {ev : Operand → AV} {a : Act} (o : Option Operand) (hev : ∀ x, o = some x → AV.rel ρ m.nx (ev x) (a.eval x)) : optRel ρ m.nx (o.map ev) (o.map a.eval) := by
  cases o with
  | none => rfl
  | some x => exact ⟨_, rfl, hev x rfl⟩
/-- One operation goes as is said. -/
theorem execA_ok {o : Oper} {ev : Operand → AV} {a : Act} {v : AV} {mo : Option MS} {bs : List Bool} (hE : ESound P E) (h : execA P E o ev m = some (v, mo, bs)) (hev : ∀ x, x ∈ o.op.operands → AV.rel ρ m.nx (ev x) (a.eval x)) (hm : MRel ρ m w) (hbs : bs.all id = true)
    {next : Act → World → Prop} {Q : Exit → Act → World → Prop} (k : ∀ ρ' w' x, AV.rel ρ' (mo.getD m).nx v x → MRel ρ' (mo.getD m) w' → Moves m.nx ρ ρ' m (mo.getD m) w w' → next (a.put o.dst x) w') : ∀ (r : Option Nat) (n : Nat), o.wpIn (FW r) n P a w next Q := by
  intro r n
  have hdef : ∀ c, o.op ≠ .defer c := fun c hc => by unfold execA at h; rw [hc] at h; cases h
  have fin : ∀ {R : Result Next}, (execOp a.eval o).run P w = R → o.uponIn (FW r) n P a next Q R → o.wpIn (FW r) n P a w next Q := fun hr hu => ⟨fun _ _ => trivial, by rw [Oper.semAt_eq _ _ _ hdef, hr]; exact hu⟩
  have pcase : ∀ {s : Sem Value} {v' : AV}, PureOk P s ρ m.nx w v' → v = v' → mo = none → (execOp a.eval o = do pure (.value (← s))) → o.wpIn (FW r) n P a w next Q := fun hp hv hmo he => by
    obtain ⟨x, h1, h2⟩ := hp
    subst hv hmo
    exact fin (R := .ok (.value x) w) (by rw [he]; simp only [Sem.run_bind, h1, Result.andThen_ok, Sem.run_pure]) (k ρ w x h2 hm (Moves.refl (Nat.le_refl _)))
  have mcase : ∀ {s : Sem Value} {v' : AV} {m' : MS}, MemOk P s ρ m w v' m' → v = v' → mo = some m' → (execOp a.eval o = do pure (.value (← s))) → o.wpIn (FW r) n P a w next Q := fun hp hv hmo he => by
    obtain ⟨ρ', x, w', h1, h2, h3, h4⟩ := hp
    subst hv hmo
    exact fin (R := .ok (.value x) w') (by rw [he]; simp only [Sem.run_bind, h1, Result.andThen_ok, Sem.run_pure]) (k ρ' w' x h2 h3 h4)
  obtain ⟨dst, op, ty, pos, after, guard⟩ := o
  unfold execA at h
  cases op <;> dsimp only at h
  case move x =>
    cases h
    exact fin (R := .ok (.value (a.eval x)) w) rfl (k ρ w (a.eval x) (hev x (by simp [Op.operands])) hm (Moves.refl (Nat.le_refl _)))
  case assign x =>
    cases h
    exact fin (R := .ok (.value (a.eval x)) w) rfl (k ρ w (a.eval x) (hev x (by simp [Op.operands])) hm (Moves.refl (Nat.le_refl _)))
  case alloc t =>
    cases hv : allocA P m t with
    | none => rw [hv] at h; cases h
    | some p =>
      rw [hv] at h; cases h
      exact mcase (allocA_ok hv hm) rfl rfl rfl
  case box t x =>
    cases hv : boxA m (ev x) with
    | none => rw [hv] at h; cases h
    | some p =>
      rw [hv] at h; cases h
      exact mcase (boxA_ok (t := t) hv hm (hev x (by simp [Op.operands]))) rfl rfl rfl
  case build t ps =>
    cases hv : buildA P t (ps.toList.map fun p => (p.1, ev p.2)) with
    | none => rw [hv] at h; cases h
    | some p =>
      rw [hv] at h; cases h
      refine pcase (buildA_ok hv (prel_map ps.toList (fun x hx => hev x (by simpa [Op.operands] using hx)))) rfl rfl ?_
      simp only [execOp]
      congr 2
      apply Array.ext'; simp
  case buildSlice t n ps =>
    cases hv : buildSliceA P m t n (ps.toList.map fun p => (p.1, ev p.2)) with
    | none => rw [hv] at h; cases h
    | some p =>
      rw [hv] at h; cases h
      refine mcase (buildSliceA_ok hv hm (prel_map ps.toList (fun x hx => hev x (by simpa [Op.operands] using hx)))) rfl rfl ?_
      simp only [execOp]
      congr 2
      apply Array.ext'; simp
  case load t x =>
    cases hv : loadA P t m (ev x) with
    | none => rw [hv] at h; cases h
    | some p =>
      rw [hv] at h; cases h
      exact pcase (loadA_ok hm hv (hev x (by simp [Op.operands])) hbs) rfl rfl rfl
  case store t x y =>
    cases hv : storeA P t m (ev x) (ev y) with
    | none => rw [hv] at h; cases h
    | some p =>
      rw [hv] at h; cases h
      obtain ⟨w', h1, h2, h3⟩ := storeA_ok (P := P) hv hm (hev x (by simp [Op.operands])) (hev y (by simp [Op.operands])) hbs
      exact fin (R := .ok .skip w') (by simp only [execOp, Sem.run_bind, h1, Result.andThen_ok, Sem.run_pure]) (k ρ w' undef (by simp [AV.rel]) h2 h3)
  case makeMap t rv =>
    cases rv with
    | some _ => cases h
    | none =>
      dsimp only at h
      cases hv : makeMapA P m t with
      | none => rw [hv] at h; cases h
      | some p =>
        rw [hv] at h; cases h
        exact mcase (makeMapA_ok hv hm) rfl rfl rfl
  case lookup t x y ok =>
    cases ok with
    | true => cases h
    | false =>
      dsimp only at h
      cases hv : lookupA P m t (ev x) (ev y) with
      | none => rw [hv] at h; cases h
      | some p =>
        rw [hv] at h; cases h
        exact pcase (lookupA_ok hv hm (hev x (by simp [Op.operands])) (hev y (by simp [Op.operands])) hbs) rfl rfl rfl
  case range t x =>
    cases hv : rangeA P m t (ev x) with
    | none => rw [hv] at h; cases h
    | some p =>
      rw [hv] at h; cases h
      exact mcase (rangeA_ok hv hm (hev x (by simp [Op.operands]))) rfl rfl rfl
  case entry x =>
    cases hv : entryA m (ev x) with
    | none => rw [hv] at h; cases h
    | some p =>
      rw [hv] at h; cases h
      exact pcase (entryA_ok hv hm (hev x (by simp [Op.operands])) hbs) rfl rfl rfl
  case mapUpdate t x y z =>
    cases hv : updateA P m t (ev x) (ev y) (ev z) with
    | none => rw [hv] at h; cases h
    | some p =>
      rw [hv] at h; cases h
      obtain ⟨w', h1, h2, h3⟩ := updateA_ok (P := P) hv hm (hev x (by simp [Op.operands])) (hev y (by simp [Op.operands])) (hev z (by simp [Op.operands])) hbs
      exact fin (R := .ok .skip w') (by simp only [execOp, Sem.run_bind, h1, Result.andThen_ok, Sem.run_pure]) (k ρ w' undef (by simp [AV.rel]) h2 h3)
  case nilCheck x =>
    have hx := hev x (by simp [Op.operands])
    split at h
    · rename_i l wd r c he
      cases h
      rw [he] at hx
      have hx' := hx
      simp only [AV.rel] at hx
      exact fin (R := .ok (.value (a.eval x)) w) (by simp only [execOp, hx.2, Sem.run_pure]) (k ρ w _ hx' hm (Moves.refl (Nat.le_refl _)))
    · rename_i f b c he
      cases h
      rw [he] at hx
      have hx' := hx
      simp only [AV.rel] at hx
      obtain ⟨xs, ys, e, _⟩ := hx
      exact fin (R := .ok (.value (a.eval x)) w) (by simp only [execOp, e, Sem.run_pure]) (k ρ w _ hx' hm (Moves.refl (Nat.le_refl _)))
    · cases h
  case binOp op t x y yt =>
    cases hv0 : binE E op (binA P op t y (ev x) (ev y)) with
    | none => rw [hv0] at h; cases h
    | some p =>
      rw [hv0] at h; cases h
      obtain ⟨bs0, hv, hbs0⟩ := binE_ok hv0 hbs
      refine pcase (binA_ok (xo := x) hv (hev x (by simp [Op.operands])) (hev y (by simp [Op.operands])) (fun q hq => ?_) hbs0) rfl rfl rfl
      cases y <;> simp only [constInt] at hq <;> try cases hq
      rename_i u
      cases u <;> simp only [] at hq <;> cases hq
      exact ⟨_, rfl⟩
  case unOp op t x =>
    cases hv : unA op (ev x) with
    | none => rw [hv] at h; cases h
    | some p =>
      rw [hv] at h; cases h
      exact pcase (unA_ok hv (hev x (by simp [Op.operands]))) rfl rfl rfl
  case convert s d x =>
    unfold convR at h
    cases hv : convA P s d (ev x) with
    | some p =>
      rw [hv] at h; cases h
      exact pcase (convA_ok hv (hev x (by simp [Op.operands]))) rfl rfl rfl
    | none =>
      rw [hv] at h
      dsimp only at h
      cases hv2 : convM P m s d (ev x) with
      | some p =>
        obtain ⟨v', bs'⟩ := p
        rw [hv2] at h; cases h
        exact pcase (convM_ok hv2 hm (hev x (by simp [Op.operands])) hbs) rfl rfl rfl
      | none =>
        rw [hv2] at h
        dsimp only at h
        cases hv3 : convN P m s d (ev x) with
        | none => rw [hv3] at h; cases h
        | some p =>
          rw [hv3] at h; cases h
          exact mcase (convN_ok hv3 hm (hev x (by simp [Op.operands]))) rfl rfl rfl
  case makeSlice t x y =>
    cases hv : makeA P m t (ev x) (ev y) with
    | none => rw [hv] at h; cases h
    | some p =>
      obtain ⟨v', m', bs'⟩ := p
      rw [hv] at h; cases h
      exact mcase (makeA_ok hv hm (hev x (by simp [Op.operands])) (hev y (by simp [Op.operands])) hbs) rfl rfl rfl
  case slice t x lo hi mx =>
    cases mx with
    | some _ => cases h
    | none =>
      dsimp only at h
      cases hv : sliceA P t (ev x) (lo.map ev) (hi.map ev) with
      | none => rw [hv] at h; cases h
      | some p =>
        rw [hv] at h; cases h
        exact pcase (sliceA_ok hv (hev x (by simp [Op.operands])) (opt_map lo (fun y hy => hev y (by simp [Op.operands, hy]))) (opt_map hi (fun y hy => hev y (by simp [Op.operands, hy]))) hbs) rfl rfl rfl
  case fieldAddr t x f =>
    cases hv : fieldAddrA P t (ev x) f with
    | none => rw [hv] at h; cases h
    | some p =>
      rw [hv] at h; cases h
      exact pcase (fieldAddrA_ok hv (hev x (by simp [Op.operands]))) rfl rfl rfl
  case field t x f =>
    cases hv : fieldA P t (ev x) f with
    | none => rw [hv] at h; cases h
    | some p =>
      rw [hv] at h; cases h
      exact pcase (fieldA_ok hv (hev x (by simp [Op.operands]))) rfl rfl rfl
  case indexAddr t x i =>
    cases hv : indexAddrA P t (ev x) (ev i) with
    | none => rw [hv] at h; cases h
    | some p =>
      rw [hv] at h; cases h
      exact pcase (indexAddrA_ok hv (hev x (by simp [Op.operands])) (hev i (by simp [Op.operands])) hbs) rfl rfl rfl
  case index t x i =>
    cases hv : indexA P t (ev x) (ev i) with
    | none => rw [hv] at h; cases h
    | some p =>
      rw [hv] at h; cases h
      exact pcase (indexA_ok hv (hev x (by simp [Op.operands])) (hev i (by simp [Op.operands])) hbs) rfl rfl rfl
  case extract x i =>
    have hx := hev x (by simp [Op.operands])
    split at h
    · rename_i vs he
      cases hv : vs[i]? with
      | none => rw [hv] at h; cases h
      | some p =>
        rw [hv] at h; cases h
        rw [he] at hx
        simp only [AV.rel] at hx
        obtain ⟨xs, e, hxs⟩ := hx
        obtain ⟨z, hz, hrz⟩ := hxs.at_ hv
        refine pcase (s := Instr.extract (a.eval x) i) (mkPure z ?_ hrz) rfl rfl rfl
        rw [e]
        simp [Instr.extract, hz]
    · cases h
  case makeFunc fn first cap =>
    cases fn with
    | func f =>
      cases h
      have h1 := rels_map (ev := ev) (ρ := ρ) (m := m) (a := a) first.toList (fun y hy => hev y (by simp [Op.operands]; exact .inl (by simpa using hy)))
      have h2 := rels_map (ev := ev) (ρ := ρ) (m := m) (a := a) cap.toList (fun y hy => hev y (by simp [Op.operands]; exact .inr (by simpa using hy)))
      refine pcase (s := Instr.makeFunc (.func f) (first.map a.eval) (cap.map a.eval)) (mkPure (.func (.func f) (first.map a.eval) (cap.map a.eval)) rfl ?_) rfl rfl rfl
      simp only [AV.rel]
      exact ⟨_, _, by rw [show first.map a.eval = (first.toList.map a.eval).toArray by apply Array.ext'; simp, show cap.map a.eval = (cap.toList.map a.eval).toArray by apply Array.ext'; simp], h1, h2⟩
    | _ => cases h
  case call c =>
    split at h
    · rename_i f hf
      have hx := hev f (by simp [Op.operands, Call.operands, hf])
      split at h
      · rename_i g first cap he
        rw [he] at hx
        simp only [AV.rel] at hx
        obtain ⟨xs, ys, e, h1, h2⟩ := hx
        have hargs := (h1.append (rels_map c.args.toList (fun y hy => hev y (by simp [Op.operands, Call.operands]; exact .inr (by simpa using hy))))).append h2
        have hcall := hE.fn _ _ _ _ _ _ h hbs ρ w _ hm hargs
        have hop : ∀ r, (callFunc g (xs ++ c.args.toList.map a.eval ++ ys).toArray).run P w = r → (execOp a.eval ⟨dst, .call c, ty, pos, after, guard⟩).run P w = r := fun r hr => by
          simp only [execOp, resolve, hf, e, Deferred.ofValue, Sem.run_bind, Sem.run_pure, Result.andThen_ok, invoke]
          rw [← hr]
          congr 2
          apply Array.ext'; simp
        rcases hcall with ⟨j, hj, hc⟩ | ⟨x, w', hj, ρ', hr, hm', hmv⟩
        · refine fin (hop _ hj) ⟨(fun h => by cases h), calls_fw r _ (Calls.mono hc fun en w' ⟨x, hen, ρ', hr, hm', hmv⟩ => ?_)⟩
          subst hen
          exact k ρ' w' x hr hm' hmv
        · exact fin (hop _ hj) (k ρ' w' x hr hm' hmv)
      · rename_i l he
        rw [he] at hx
        have hargs : AV.rels ρ m.nx (.yld l :: c.args.toList.map ev) (a.eval f :: c.args.toList.map a.eval) := by
          simp only [AV.rels]
          exact ⟨_, _, rfl, hx, rels_map c.args.toList (fun y hy => hev y (by simp [Op.operands, Call.operands]; exact .inr (by simpa using hy)))⟩
        obtain ⟨L, ys, hxs, hround⟩ := hE.yl _ _ _ _ _ h hbs ρ w _ hm hargs
        obtain ⟨e, hys⟩ := List.cons.inj hxs
        obtain ⟨l', f', tmps, asg, body, hy, hr⟩ := hround r (n - 1)
        refine fin (R := .ok (.round l' f' tmps asg body) w) ?_ ⟨(fun h => by cases h), RoundIn.mono hr fun en w' ⟨x, hen, ρ', hr, hm', hmv⟩ => ?_⟩
        · simp only [execOp, resolve, hf, e, Deferred.ofValue, Sem.run_bind, Sem.run_pure, Result.andThen_ok, invoke]
          rw [← hy, ← hys]
          congr 2
          apply Array.ext'; simp
        · subst hen
          exact k ρ' w' x hr hm' hmv
      · cases h
    · rename_i b hb
      obtain ⟨ρ', x, w', h1, h2, h3, h4⟩ := builtinA_ok h hm (rels_map c.args.toList (fun y hy => hev y (by simp [Op.operands, Call.operands]; exact .inr (by simpa using hy)))) hbs ty (c.args.map fun | .const _ => true | _ => false)
      have hrun : (execOp a.eval ⟨dst, .call c, ty, pos, after, guard⟩).run P w = .ok (.value x) w' := by
        simp only [execOp, resolve, hb, Sem.run_bind, Sem.run_pure, Result.andThen_ok, invoke]
        rw [← h1]
        congr 2
        apply Array.ext'; simp
      exact fin hrun (k ρ' w' x h2 h3 h4)
    · cases h
  all_goals cases h
end
end Go.Proofs.Ytmjpikkloofakaa

namespace Go.Proofs.Ytmjpikkloofakaa
open Go Go.RowKit

def putA (tm : List AV) (dst : Option Tmp) (v : AV) : List AV := match dst with
  | some d => tm.set d v
  | none => tm
/-- Whether a guarded operation is carried out. -/
def guardA (ops : Array Oper) (tm : List AV) : Option (Nat × Bool) → Option (Option (Nat × Bool × Bool))
  | none => some none
  | some (j, want) => match ops.toList[j]? with
    | some o => match o.dst with
      | some t => match tm.getD t .unk with
        | .val (.bool b) => some (some (t, want, bif want then b else !b))
        | .gd _ _ g (.val (.bool b)) => some (some (t, want, g && (bif want then b else !b)))
        | .gd _ _ false _ => some (some (t, want, false))
        | _ => none
      | none => none
    | none => none
def keyOf (x : Operand) (w : Bool) : Key := match x with
  | .tmp t => some (t, w)
  | _ => none
def pickOne (key kc : Key) (n : Bool) : AV → List Bool
  | .gd t w g _ => match sameKey t w key || sameKey t w kc with
    | true => []
    | false => [n || g]
  | _ => []
def pickObl (key : Key) (x : Operand) (t : Bool) (a b c : AV) : List Bool :=
  pickOne key (keyOf x true) (!t) a ++ pickOne key (keyOf x false) t b ++ gdOf key c
/-- An operation, without its guard. -/
def coreA (P : Program) (E : Env) (key : Key) (o : Oper) (tm : List AV) (m : MS) : Res := match o.op with
  | .pick c a b => match strip (evA tm c) with
    | .val (.bool t) => match pickA t (evA tm a) (evA tm b) with
      | some v => some (v, none, pickObl key c t (evA tm a) (evA tm b) (evA tm c))
      | none => none
    | _ => none
  | _ => match execA P E o (fun x => strip (evA tm x)) m with
    | some (v, mo, bs) => some (v, mo, (o.op.operands.toList.flatMap fun x => gdOf key (evA tm x)) ++ bs)
    | none => none
def isGd : AV → Bool
  | .gd .. => true
  | _ => false
def stepA (P : Program) (E : Env) (ops : Array Oper) (o : Oper) (tm : List AV) (m : MS) : Res := match guardA ops tm o.guard with
  | none => none
  | some none => match coreA P E none o tm m with
    | some (v, mo, bs) => match isGd v with
      | true => none
      | false => some (v, mo, bs)
    | none => none
  | some (some (t, w, g)) => match coreA P E (some (t, w)) o tm m with
    | some (v, none, bs) => some (.gd t w g v, none, imps g bs)
    | some (v, some m', bs) => match hintA m 1000003 with
      | true => some (.gd t w true v, some m', g :: bs)
      | false => match g with
        | true => some (.gd t w true v, some m', bs)
        | false => some (.gd t w false .unk, none, [])
    | none => match g with
      | true => none
      | false => some (.gd t w false .unk, none, [])
def GI (tm : List AV) (a : Act) : Prop := ∀ (i t : Nat) (w g : Bool) (v : AV), tm[i]? = some (.gd t w g v) → (g = true ↔ a.tmps[t]? = some (.bool w))
def KeyT (key : Key) (a : Act) : Prop := ∀ t w, key = some (t, w) → a.tmps[t]? = some (.bool w)
def cleanA : List AV → List AV
  | [] => []
  | a :: r => (match isGd a with | true => .unk | false => a) :: cleanA r
def NoGd (tm : List AV) : Prop := ∀ (i t : Nat) (w g : Bool) (v : AV), tm[i]? ≠ some (.gd t w g v)
section
variable {P : Program} {E : Env} {ρ : Rho} {m : MS} {w : World} {ops : Array Oper}
theorem putA_ok {nx : Nat} {tm : List AV} {a : Act} {dst : Option Tmp} {v : AV} {x : Value} (h : AV.rels ρ nx tm a.tmps.toList) (hx : AV.rel ρ nx v x) : AV.rels ρ nx (putA tm dst v) (a.put dst x).tmps.toList := by
  cases dst with
  | none => exact h
  | some d =>
    simp only [putA, Act.put, Array.toList_setIfInBounds]
    exact h.set hx
theorem evA_ok {nx : Nat} {tm : List AV} {a : Act} (h : AV.rels ρ nx tm a.tmps.toList) (x : Operand) : AV.rel ρ nx (evA tm x) (a.eval x) := by
  cases x with
  | tmp t =>
    simp only [evA, Act.eval]
    cases ht : tm[t]? with
    | none => simp [ht, AV.rel]
    | some b =>
      obtain ⟨x, hx, hr⟩ := h.at_ ht
      have : a.tmps.getD t undef = x := by
        simp only [Array.getElem?_toList] at hx
        simp [hx]
      rw [this]
      simpa [ht] using hr
  | const v => exact ofConst_rel v
  | global g => simp [evA, Act.eval, AV.rel]
  | func f => simp only [evA, Act.eval, AV.rel]; exact ⟨[], [], rfl, by simp [AV.rels], by simp [AV.rels]⟩
theorem sameKey_eq {t : Nat} {w : Bool} {key : Key} (h : sameKey t w key = true) : key = some (t, w) := by
  unfold sameKey at h
  split at h
  · rename_i t' w'
    simp only [Bool.and_eq_true] at h
    obtain ⟨h1, h2⟩ := h
    have := Nat.eq_of_beq_eq_true h1
    subst this
    cases w <;> cases w' <;> first | rfl | (cases h2)
  · cases h
theorem evA_gd {tm : List AV} {a : Act} {x : Operand} {t : Nat} {w g : Bool} {v : AV} (hG : GI tm a) (h : evA tm x = .gd t w g v) : g = true ↔ a.tmps[t]? = some (.bool w) := by
  cases x with
  | tmp i =>
    simp only [evA] at h
    refine hG i t w g v ?_
    cases hi : tm[i]? with
    | none => simp [hi] at h
    | some u => simp [hi] at h; rw [h]
  | const u => simp only [evA, ofConst] at h; split at h <;> cases h
  | global _ => simp only [evA] at h; cases h
  | func _ => simp only [evA] at h; cases h
theorem strip_ok {nx : Nat} {b : AV} {a : Act} {key : Key} {x : Value} (h : AV.rel ρ nx b x) (hg : (gdOf key b).all id = true) (hb : ∀ t w g v, b = .gd t w g v → (g = true ↔ a.tmps[t]? = some (.bool w))) (hk : KeyT key a) : AV.rel ρ nx (strip b) x := by
  cases b <;> simp only [strip] <;> try exact h
  rename_i t w g v
  simp only [AV.rel] at h
  refine h.1 ?_
  unfold gdOf at hg
  dsimp only at hg
  split at hg
  · rename_i hs
    exact (hb t w g v rfl).2 (hk t w (sameKey_eq hs))
  · simpa using hg
theorem pickOne_ok {nx : Nat} {b : AV} {a : Act} {key kc : Key} {n : Bool} {x : Value} (h : AV.rel ρ nx b x) (hg : (pickOne key kc n b).all id = true) (hn : n = false) (hb : ∀ t w g v, b = .gd t w g v → (g = true ↔ a.tmps[t]? = some (.bool w))) (hk : KeyT key a) (hk' : KeyT kc a) : AV.rel ρ nx (strip b) x := by
  cases b <;> simp only [strip] <;> try exact h
  rename_i t w g v
  simp only [AV.rel] at h
  refine h.1 ?_
  unfold pickOne at hg
  dsimp only at hg
  split at hg
  · rename_i hs
    simp only [Bool.or_eq_true] at hs
    rcases hs with hs | hs
    · exact (hb t w g v rfl).2 (hk t w (sameKey_eq hs))
    · exact (hb t w g v rfl).2 (hk' t w (sameKey_eq hs))
  · rw [hn] at hg; simpa using hg
theorem tmp_bool {a : Act} {t : Nat} {b : Bool} (h : a.eval (.tmp t) = .bool b) : a.tmps[t]? = some (.bool b) := by
  simp only [Act.eval] at h
  cases hq : a.tmps[t]? with
  | none => simp [hq, undef] at h
  | some u => simp [hq] at h; rw [h]
theorem pickA_ok {nx : Nat} {t : Bool} {p q v : AV} {x y : Value} (h : pickA t p q = some v) (ha' : t = true → AV.rel ρ nx (strip p) x) (hb' : t = false → AV.rel ρ nx (strip q) y) : AV.rel ρ nx v (if t then x else y) := by
  unfold pickA at h
  split at h
  · rename_i p q e1 e2
    rw [e1] at ha'; rw [e2] at hb'
    cases h
    cases t
    · have := hb' rfl; simp only [AV.rel] at this ⊢; simp [this]
    · have := ha' rfl; simp only [AV.rel] at this ⊢; simp [this]
  · rename_i k p k' q e1 e2
    rw [e1] at ha'; rw [e2] at hb'
    by_cases hk : k = k'
    · subst hk
      simp only [decide_true, Option.some.injEq] at h
      subst h
      cases t
      · have := hb' rfl; simp only [AV.rel] at this ⊢; simp [this]
      · have := ha' rfl; simp only [AV.rel] at this ⊢; simp [this]
    · simp [hk] at h
  · rename_i p q e1 e2
    rw [e1] at ha'; rw [e2] at hb'
    cases h
    cases t
    · have := hb' rfl; simp only [AV.rel] at this ⊢; simp [this]
    · have := ha' rfl; simp only [AV.rel] at this ⊢; simp [this]
  · cases t
    · cases h; exact hb' rfl
    · cases h
  · cases t
    · cases h
    · cases h; exact ha' rfl
  · cases h
theorem coreA_ok {key : Key} {o : Oper} {tm : List AV} {a : Act} {v : AV} {mo : Option MS} {bs : List Bool} (hE : ESound P E) (h : coreA P E key o tm m = some (v, mo, bs)) (ht : AV.rels ρ m.nx tm a.tmps.toList) (hG : GI tm a) (hk : KeyT key a) (hm : MRel ρ m w) (hbs : bs.all id = true)
    {next : Act → World → Prop} {Q : Exit → Act → World → Prop} (k : ∀ ρ' w' x, AV.rel ρ' (mo.getD m).nx v x → MRel ρ' (mo.getD m) w' → Moves m.nx ρ ρ' m (mo.getD m) w w' → next (a.put o.dst x) w') : ∀ (r : Option Nat) (n : Nat), o.wpIn (FW r) n P a w next Q := by
  have hgd : ∀ x t w g v, evA tm x = .gd t w g v → (g = true ↔ a.tmps[t]? = some (.bool w)) := fun x t w g v hx => evA_gd hG hx
  unfold coreA at h
  split at h
  · rename_i c x y hop
    split at h
    · rename_i t hc
      cases hp : pickA t (evA tm x) (evA tm y) with
      | none => rw [hp] at h; cases h
      | some v' =>
        rw [hp] at h
        cases h
        obtain ⟨hb12, hb3⟩ := all_app hbs
        obtain ⟨hb1, hb2⟩ := all_app hb12
        have hcc := strip_ok (evA_ok ht c) hb3 (hgd c) hk
        rw [hc] at hcc
        simp only [AV.rel] at hcc
        have hkc : ∀ b, t = b → KeyT (keyOf c b) a := fun b hb t' w' he => by
          cases c <;> simp only [keyOf] at he <;> try cases he
          rw [← hb]
          exact tmp_bool hcc
        have hr := pickA_ok hp (fun htt => pickOne_ok (evA_ok ht x) hb1 (by rw [htt]; rfl) (hgd x) hk (hkc true htt)) (fun htt => pickOne_ok (evA_ok ht y) hb2 htt (hgd y) hk (hkc false htt))
        obtain ⟨dst, op, ty, pos, after, guard⟩ := o
        dsimp only at hop
        subst hop
        intro r n
        refine ⟨fun _ _ => trivial, ?_⟩
        rw [Oper.semAt_eq _ _ _ (fun c h => by cases h)]
        simp only [execOp, hcc, asBool, Sem.run_bind, Sem.run_pure, Result.andThen_ok, Oper.uponIn]
        exact k ρ w _ hr hm (Moves.refl (Nat.le_refl _))
    · cases h
  · cases he : execA P E o (fun x => strip (evA tm x)) m with
    | none => rw [he] at h; cases h
    | some p =>
      obtain ⟨v', mo', bs'⟩ := p
      rw [he] at h
      cases h
      obtain ⟨b1, b2⟩ := all_app hbs
      refine execA_ok hE he (fun x hx => strip_ok (evA_ok ht x) ?_ (hgd x) hk) hm b2 k
      rw [List.all_eq_true] at b1 ⊢
      intro g hg
      exact b1 g (List.mem_flatMap.2 ⟨x, by simpa using hx, hg⟩)
def wantOf : Option (Nat × Bool × Bool) → Bool
  | some (_, _, g) => g
  | none => true
theorem guardA_ok {nx : Nat} {o : Oper} {tm : List AV} {a : Act} {g : Option (Nat × Bool × Bool)} (h : guardA ops tm o.guard = some g) (ht : AV.rels ρ nx tm a.tmps.toList) :
    Region.wanted o (yielded ops a.tmps) = wantOf g ∧ ∀ t w b, g = some (t, w, b) → (b = true ↔ a.tmps[t]? = some (.bool w)) ∧ ∃ j oj, o.guard = some (j, w) ∧ ops[j]? = some oj ∧ oj.dst = some t := by
  unfold guardA at h
  split at h
  · rename_i hg
    cases h
    exact ⟨by simp [Region.wanted, hg, wantOf], fun _ _ _ h => by cases h⟩
  · rename_i j want hg
    split at h
    · rename_i oj hoj
      have hoj' : ops[j]? = some oj := by simpa using hoj
      split at h
      · rename_i t hd
        have hy : yielded ops a.tmps j = match a.tmps[t]? with | some (.bool b) => some b | _ => none := by
          simp [yielded, hoj', hd]
          rfl
        have hrel := evA_ok ht (.tmp t)
        simp only [evA, Act.eval] at hrel
        split at h
        · rename_i b hb
          cases h
          rw [hb] at hrel
          simp only [AV.rel] at hrel
          have hb2 : a.tmps[t]? = some (.bool b) := tmp_bool hrel
          refine ⟨?_, fun t' w' b' e => ?_⟩
          · simp only [Region.wanted, hg, hy, hb2, wantOf]
            cases want <;> cases b <;> rfl
          · cases e
            refine ⟨?_, j, oj, hg, hoj', hd⟩
            rw [hb2]
            cases want <;> cases b <;> simp
        · rename_i _ _ g0 b hb
          cases h
          rw [hb] at hrel
          simp only [AV.rel] at hrel
          cases g0 with
          | true =>
            have hrel := hrel.1 rfl
            have hb2 : a.tmps[t]? = some (.bool b) := tmp_bool hrel
            refine ⟨?_, fun t' w' b' e => ?_⟩
            · simp only [Region.wanted, hg, hy, hb2, wantOf]
              cases want <;> cases b <;> rfl
            · cases e
              refine ⟨?_, j, oj, hg, hoj', hd⟩
              rw [hb2]
              cases want <;> cases b <;> simp
          | false =>
            have hrel := hrel.2 rfl
            have hb3 : ∀ b, a.tmps[t]? ≠ some (.bool b) := fun b hh => by simp [hh, undef] at hrel
            have hb2 : (match a.tmps[t]? with | some (.bool b) => some b | _ => none) = none := by
              cases hq : a.tmps[t]? with
              | none => rfl
              | some u => simp [hq] at hrel; rw [hrel]; rfl
            refine ⟨?_, fun t' w' b' e => ?_⟩
            · simp only [Region.wanted, hg, hy, hb2, wantOf]
              cases want <;> rfl
            · cases e
              refine ⟨?_, j, oj, hg, hoj', hd⟩
              simp [hb3]
        · rename_i _ _ u _ hb
          cases h
          rw [hb] at hrel
          simp only [AV.rel] at hrel
          have hrel := hrel.2 trivial
          have hb3 : ∀ b, a.tmps[t]? ≠ some (.bool b) := fun b hh => by simp [hh, undef] at hrel
          have hb2 : (match a.tmps[t]? with | some (.bool b) => some b | _ => none) = none := by
            cases hq : a.tmps[t]? with
            | none => rfl
            | some u => simp [hq] at hrel; rw [hrel]; rfl
          refine ⟨?_, fun t' w' b' e => ?_⟩
          · simp only [Region.wanted, hg, hy, hb2, wantOf]
            cases want <;> rfl
          · cases e
            refine ⟨?_, j, oj, hg, hoj', hd⟩
            simp [hb3]
        · cases h
      · cases h
    · cases h
/-- One operation of a region, with its guard. -/
theorem stepA_ok {i : Nat} {o : Oper} {tm : List AV} {a : Act} {v : AV} {mo : Option MS} {bs : List Bool} (hE : ESound P E) (hi : ops[i]? = some o) (h : stepA P E ops o tm m = some (v, mo, bs)) (ht : AV.rels ρ m.nx tm a.tmps.toList) (hG : GI tm a) (hm : MRel ρ m w) (hbs : bs.all id = true)
    {K : Act → World → Prop} {Q : Exit → Act → World → Prop} (k : (∀ t w g u, v = .gd t w g u → (g = true ↔ a.tmps[t]? = some (.bool w)) ∧ ∃ j oj, o.guard = some (j, w) ∧ ops[j]? = some oj ∧ oj.dst = some t) → ∀ ρ' w' x, AV.rel ρ' (mo.getD m).nx v x → MRel ρ' (mo.getD m) w' → Moves m.nx ρ ρ' m (mo.getD m) w w' → K (a.put o.dst x) w') : ∀ (r : Option Nat) (n : Nat), wpOpIn (FW r) n P ops Q i K a w := by
  intro r n
  unfold wpOpIn
  simp only [hi]
  unfold stepA at h
  cases hg : guardA ops tm o.guard with
  | none => rw [hg] at h; cases h
  | some g =>
    rw [hg] at h
    obtain ⟨hw, hinfo⟩ := guardA_ok hg ht
    cases g with
    | none =>
      dsimp only at h
      cases hc : coreA P E none o tm m with
      | none => rw [hc] at h; cases h
      | some p =>
        obtain ⟨v', mo', bs'⟩ := p
        rw [hc] at h
        dsimp only at h
        cases hgd : isGd v' with
        | true => rw [hgd] at h; cases h
        | false =>
          rw [hgd] at h
          cases h
          rw [hw]
          exact coreA_ok hE hc ht hG (fun _ _ h => by cases h) hm hbs (k fun t w g u e => by rw [e] at hgd; cases hgd) r n
    | some q =>
      obtain ⟨t, w0, g⟩ := q
      dsimp only at h
      cases hc : coreA P E (some (t, w0)) o tm m with
      | none =>
        rw [hc] at h
        cases g with
        | true => cases h
        | false =>
          cases h
          rw [hw]
          have k' := k (fun t' w' g' u' e => by cases e; exact hinfo t w0 false rfl)
          exact ⟨fun _ _ => trivial, k' ρ w undef (by simp [AV.rel]) hm (Moves.refl (Nat.le_refl _))⟩
      | some p =>
        obtain ⟨v', mo', bs'⟩ := p
        rw [hc] at h
        cases mo' with
        | some m' =>
          dsimp only at h
          cases hh : hintA m 1000003 with
          | true =>
            rw [hh] at h
            cases h
            obtain ⟨hg1, hbs⟩ := all_cons hbs
            have hg1 : g = true := hg1
            subst hg1
            rw [hw]
            have k' := k (fun t' w' g' u' e => by cases e; exact hinfo t w0 true rfl)
            have hkt : KeyT (some (t, w0)) a := fun t' w' e => by cases e; exact (hinfo t w0 true rfl).1.1 rfl
            refine coreA_ok hE hc ht hG hkt hm hbs (fun ρ' w' x hx hm' hmv => k' ρ' w' x ?_ hm' hmv) r n
            simp only [AV.rel]
            exact ⟨fun _ => hx, fun h => by cases h⟩
          | false =>
          rw [hh] at h
          dsimp only at h
          cases g with
          | true =>
            cases h
            rw [hw]
            have k' := k (fun t' w' g' u' e => by cases e; exact hinfo t w0 true rfl)
            have hkt : KeyT (some (t, w0)) a := fun t' w' e => by cases e; exact (hinfo t w0 true rfl).1.1 rfl
            refine coreA_ok hE hc ht hG hkt hm hbs (fun ρ' w' x hx hm' hmv => k' ρ' w' x ?_ hm' hmv) r n
            simp only [AV.rel]
            exact ⟨fun _ => hx, fun h => by cases h⟩
          | false =>
            cases h
            rw [hw]
            have k' := k (fun t' w' g' u' e => by cases e; exact hinfo t w0 false rfl)
            exact ⟨fun _ _ => trivial, k' ρ w undef (by simp [AV.rel]) hm (Moves.refl (Nat.le_refl _))⟩
        | none =>
          cases h
          rw [hw]
          have k' := k (fun t' w' g' u' e => by cases e; exact hinfo t w0 g rfl)
          cases g with
          | true =>
            have hb' : bs'.all id = true := by
              simp only [imps, List.all_map] at hbs
              simpa using hbs
            have hkt : KeyT (some (t, w0)) a := fun t' w' e => by cases e; exact (hinfo t w0 true rfl).1.1 rfl
            refine coreA_ok hE hc ht hG hkt hm hb' (fun ρ' w' x hx hm' hmv => k' ρ' w' x ?_ hm' hmv) r n
            simp only [AV.rel]
            exact ⟨fun _ => hx, fun h => by cases h⟩
          | false =>
            exact ⟨fun _ _ => trivial, k' ρ w undef (by simp [AV.rel]) hm (Moves.refl (Nat.le_refl _))⟩
/-- No two write a guard; it comes ahead. -/
def guardsOk (l : List Oper) : Bool := (List.range l.length).all fun k => match l[k]? with
  | some o => match o.guard with
    | none => true
    | some (j, _) => Nat.blt j k && (match l[j]? with
      | some oj => match oj.dst with
        | some t => (List.range l.length).all fun i => Nat.beq i j || (match l[i]? with
          | some oi => (match oi.dst with | some t' => !Nat.beq t' t | none => true)
          | none => true)
        | none => false
      | none => false)
  | none => false
theorem guardsOk_spec {ops : Array Oper} (h : guardsOk ops.toList = true) {k j t : Nat} {o oj : Oper} {w : Bool} (hk : ops[k]? = some o) (hg : o.guard = some (j, w)) (hj : ops[j]? = some oj) (hd : oj.dst = some t) : j < k ∧ ∀ i oi, i ≠ j → ops[i]? = some oi → oi.dst ≠ some t := by
  have hk' : ops.toList[k]? = some o := by simpa using hk
  have hj' : ops.toList[j]? = some oj := by simpa using hj
  have hlt : k < ops.toList.length := (List.getElem?_eq_some_iff.1 hk').1
  have h1 := List.all_eq_true.1 h k (List.mem_range.2 hlt)
  rw [hk'] at h1
  dsimp only at h1
  rw [hg] at h1
  dsimp only at h1
  rw [hj'] at h1
  dsimp only at h1
  rw [hd] at h1
  simp only [Bool.and_eq_true] at h1
  refine ⟨by simpa [Nat.blt_eq] using h1.1, fun i oi hne hi he => ?_⟩
  have hi' : ops.toList[i]? = some oi := by simpa using hi
  have h2 := List.all_eq_true.1 h1.2 i (List.mem_range.2 (List.getElem?_eq_some_iff.1 hi').1)
  rw [nbeq_ne hne, hi'] at h2
  dsimp only at h2
  rw [he] at h2
  simp at h2
/-- Whence a guarded value comes. -/
def Whence (ops : Array Oper) (done : Nat → Prop) (tm : List AV) : Prop := ∀ (i t : Nat) (w g : Bool) (v : AV), tm[i]? = some (.gd t w g v) → ∃ k o j w' oj, done k ∧ ops[k]? = some o ∧ o.guard = some (j, w') ∧ ops[j]? = some oj ∧ oj.dst = some t
theorem GI.put {tm : List AV} {a : Act} {o : Oper} {k : Nat} {v : AV} {x : Value} {done : Nat → Prop} (hG : GI tm a) (hW : Whence ops done tm) (hok : guardsOk ops.toList = true) (hk : ops[k]? = some o)
    (hdone : ∀ k' o' j w', done k' → ops[k']? = some o' → o'.guard = some (j, w') → j ≠ k) (hv : ∀ t w g u, v = .gd t w g u → (g = true ↔ a.tmps[t]? = some (.bool w)) ∧ ∃ j oj, o.guard = some (j, w) ∧ ops[j]? = some oj ∧ oj.dst = some t) :
    GI (putA tm o.dst v) (a.put o.dst x) ∧ Whence ops (fun n => done n ∨ n = k) (putA tm o.dst v) := by
  have hone : ∀ (i t : Nat) (w g : Bool) (u : AV), (putA tm o.dst v)[i]? = some (AV.gd t w g u) → tm[i]? = some (AV.gd t w g u) ∨ v = AV.gd t w g u := fun i t w g u hi => by
    cases hd : o.dst with
    | none => rw [hd] at hi; simp only [putA] at hi; exact .inl hi
    | some d =>
      rw [hd] at hi
      simp only [putA] at hi
      by_cases e : d = i
      · subst e
        by_cases hl : d < tm.length
        · rw [List.getElem?_set_self hl] at hi; exact .inr (by cases hi; rfl)
        · rw [List.getElem?_eq_none (by simpa using Nat.le_of_not_lt hl)] at hi; cases hi
      · rw [List.getElem?_set_ne e] at hi; exact .inl hi
  have hkeep : ∀ t, o.dst ≠ some t → (a.put o.dst x).tmps[t]? = a.tmps[t]? := fun t ht => by
    cases hd : o.dst with
    | none => rfl
    | some d =>
      simp only [Act.put]
      rw [Array.getElem?_setIfInBounds_ne]
      intro e
      rw [hd, e] at ht
      exact ht rfl
  refine ⟨fun i t w g u hi => ?_, fun i t w g u hi => ?_⟩
  · rcases hone i t w g u hi with h1 | h1
    · obtain ⟨k', o', j, w', oj, hdn, hk', hg', hj, hdt⟩ := hW i t w g u h1
      have hne : o.dst ≠ some t := (guardsOk_spec hok hk' hg' hj hdt).2 k o (Ne.symm (hdone k' o' j w' hdn hk' hg')) hk
      rw [hkeep t hne]
      exact hG i t w g u h1
    · obtain ⟨h2, j, oj, hg, hj, hdt⟩ := hv t w g u h1
      have hsp := guardsOk_spec hok hk hg hj hdt
      have hne : o.dst ≠ some t := hsp.2 k o (by omega) hk
      rw [hkeep t hne]
      exact h2
  · rcases hone i t w g u hi with h1 | h1
    · obtain ⟨k', o', j, w', oj, hdn, h2⟩ := hW i t w g u h1
      exact ⟨k', o', j, w', oj, .inl hdn, h2⟩
    · obtain ⟨_, j, oj, hg, hj, hdt⟩ := hv t w g u h1
      exact ⟨k, o, j, w, oj, .inr rfl, hk, hg, hj, hdt⟩
theorem cleanA_rels {nx : Nat} : ∀ {tm : List AV} {xs : List Value}, AV.rels ρ nx tm xs → AV.rels ρ nx (cleanA tm) xs
  | [], xs, h => by simpa [cleanA] using h
  | b :: r, xs, h => by
    simp only [AV.rels] at h
    obtain ⟨y, ys, rfl, h1, h2⟩ := h
    simp only [cleanA, AV.rels]
    refine ⟨y, ys, rfl, ?_, cleanA_rels h2⟩
    split
    · simp [AV.rel]
    · exact h1
theorem cleanA_noGd : ∀ (tm : List AV), NoGd (cleanA tm)
  | [], i, t, w, g, v, h => by simp [cleanA] at h
  | b :: r, 0, t, w, g, v, h => by
    simp only [cleanA, List.getElem?_cons_zero, Option.some.injEq] at h
    split at h
    · cases h
    · rename_i hb; rw [h] at hb; cases hb
  | b :: r, i + 1, t, w, g, v, h => by
    simp only [cleanA, List.getElem?_cons_succ] at h
    exact cleanA_noGd r i t w g v h
end
def orM (mo : Option MS) (m : MS) : MS := match mo with
  | some m' => m'
  | none => m
/-- In the order of the text. -/
def seqRun (P : Program) (E : Env) (ops : Array Oper) : List Oper → List AV → MS → Option (List AV × MS × List Bool)
  | [], tm, m => some (tm, m, [])
  | o :: r, tm, m => match stepA P E ops o tm m with
    | some (v, mo, bs) => match seqRun P E ops r (putA tm o.dst v) (orM mo m) with
      | some (tm', m', bs') => some (tm', m', bs ++ bs')
      | none => none
    | none => none
def seqA (P : Program) (E : Env) (ops : Array Oper) (tm : List AV) (m : MS) : Option (List AV × MS × List Bool) := match guardsOk ops.toList with
  | true => seqRun P E ops ops.toList tm m
  | false => none
section
variable {P : Program} {E : Env} {ops : Array Oper}
theorem getD_match (mo : Option MS) (m : MS) : orM mo m = mo.getD m := by cases mo <;> rfl
theorem seqRun_ok {B : Nat} (r : Option Nat) (fu : Nat) {Q : Exit → Act → World → Prop} (hE : ESound P E) (hok : guardsOk ops.toList = true) : ∀ (l : List Oper) (n : Nat) (tm : List AV) (m : MS) (ρ : Rho) (a : Act) (w : World) (tm' : List AV) (m' : MS) (bs : List Bool), ops.toList.drop n = l → seqRun P E ops l tm m = some (tm', m', bs) → bs.all id = true → AV.rels ρ m.nx tm a.tmps.toList → GI tm a → Whence ops (· < n) tm → MRel ρ m w → B ≤ m.nx →
    (∀ ρ' a' w', AV.rels ρ' m'.nx tm' a'.tmps.toList → a'.defers = a.defers → MRel ρ' m' w' → Moves B ρ ρ' m m' w w' → Q .normal a' w') → wpOpsIn (FW r) fu P ops Q (List.range' n l.length) a w
  | [], n, tm, m, ρ, a, w, tm', m', bs, hl, h, _, ht, _, _, hm, hB, k => by
    simp only [seqRun, Option.some.injEq, Prod.mk.injEq] at h
    obtain ⟨rfl, rfl, rfl⟩ := h
    exact k ρ a w ht rfl hm (Moves.refl hB)
  | o :: l', n, tm, m, ρ, a, w, tm', m', bs, hl, h, hbs, ht, hG, hW, hm, hB, k => by
    have ho : ops.toList[n]? = some o := by
      have := congrArg (·[0]?) hl
      simpa using this
    have ho' : ops[n]? = some o := by simpa using ho
    simp only [List.length_cons, List.range'_succ]
    rw [wpOpsIn_cons]
    simp only [seqRun] at h
    cases hs : stepA P E ops o tm m with
    | none => rw [hs] at h; cases h
    | some p =>
      obtain ⟨v, mo, b1⟩ := p
      rw [hs] at h
      dsimp only at h
      rw [getD_match] at h
      cases hr : seqRun P E ops l' (putA tm o.dst v) (mo.getD m) with
      | none => rw [hr] at h; cases h
      | some q =>
        obtain ⟨tm2, m2, b2⟩ := q
        rw [hr] at h
        cases h
        obtain ⟨h1, h2⟩ := all_app hbs
        refine stepA_ok hE ho' hs ht hG hm h1 (fun hv ρ1 w1 x hx hm1 hmv => ?_) r fu
        have ht1 : AV.rels ρ1 (mo.getD m).nx tm a.tmps.toList := AV.rels.ext hmv.ext hmv.nx _ _ ht
        obtain ⟨g1, g2⟩ := hG.put (x := x) hW hok ho' (fun k' o' j w' hk' ho1 hg1 hj => by
          have hex : ∃ oj t, ops[j]? = some oj ∧ oj.dst = some t := by
            have hk1 : ops.toList[k']? = some o' := by simpa using ho1
            have := List.all_eq_true.1 hok k' (List.mem_range.2 (List.getElem?_eq_some_iff.1 hk1).1)
            rw [hk1] at this
            dsimp only at this
            rw [hg1] at this
            simp only [Bool.and_eq_true] at this
            cases hoj : ops.toList[j]? with
            | none => rw [hoj] at this; simp at this
            | some oj =>
              rw [hoj] at this
              cases hd : oj.dst with
              | none => simp [hd] at this
              | some t => exact ⟨oj, t, by simpa using hoj, hd⟩
          obtain ⟨oj, t, e1, e2⟩ := hex
          have := (guardsOk_spec hok ho1 hg1 e1 e2).1
          omega) hv
        refine seqRun_ok (B := B) r fu hE hok l' (n + 1) _ _ ρ1 _ w1 _ _ _ ?_ hr h2 (putA_ok ht1 hx) g1 (fun i t w g u hi => ?_) hm1 (Nat.le_trans hB hmv.nx) fun ρ2 a2 w2 t2 d2 g2 mv2 => ?_
        · have := congrArg (List.drop 1) hl
          simpa [Nat.add_comm] using this
        · obtain ⟨k', o', j, w', oj, hdn, hrest⟩ := g2 i t w g u hi
          exact ⟨k', o', j, w', oj, by rcases hdn with h | h <;> omega, hrest⟩
        · refine k ρ2 a2 w2 t2 ?_ g2 ((hmv.base hB).trans mv2)
          rw [d2]
          cases o.dst <;> rfl
theorem seqA_ok {B : Nat} (r : Option Nat) (fu : Nat) {Q : Exit → Act → World → Prop} (hE : ESound P E) {tm : List AV} {m : MS} {ρ : Rho} {a : Act} {w : World} {tm' : List AV} {m' : MS} {bs : List Bool} (h : seqA P E ops tm m = some (tm', m', bs)) (hbs : bs.all id = true) (ht : AV.rels ρ m.nx tm a.tmps.toList) (hn : NoGd tm) (hm : MRel ρ m w) (hB : B ≤ m.nx)
    (k : ∀ ρ' a' w', AV.rels ρ' m'.nx tm' a'.tmps.toList → a'.defers = a.defers → MRel ρ' m' w' → Moves B ρ ρ' m m' w w' → Q .normal a' w') : wpOpsIn (FW r) fu P ops Q (List.range ops.size) a w := by
  unfold seqA at h
  cases hok : guardsOk ops.toList with
  | false => rw [hok] at h; cases h
  | true =>
    rw [hok] at h
    have := seqRun_ok (B := B) (Q := Q) r fu hE hok ops.toList 0 tm m ρ a w tm' m' bs (by simp) h hbs ht (fun i t w g v hi => absurd hi (hn i t w g v)) (fun i t w g v hi => absurd hi (hn i t w g v)) hm hB k
    rw [List.range_eq_range']
    simpa using this
end
end Go.Proofs.Ytmjpikkloofakaa

namespace Go.Proofs.Ytmjpikkloofakaa
open Go Go.RowKit
def nilSl : Value → Bool
  | .slice none 0 0 => true
  | _ => false
def mergeV (t : Bool) (u v : Value) : AV := match u, v with
  | .int k x, .int k' y => match decide (k = k') with
    | true => .val (.int k (bif t then x else y))
    | false => .unk
  | .bool x, .bool y => .val (.bool (bif t then x else y))
  | .string x, .string y => .val (.string (bif t then x else y))
  | .pointer none, .pointer none => .val (.pointer none)
  | .slice none 0 0, .slice none 0 0 => .val (.slice none 0 0)
  | _, _ => .unk
mutual
def mergeAV (t : Bool) : AV → AV → AV
  | .val u, b => match b with
    | .val v => mergeV t u v
    | _ => .unk
  | .agg xs, b => match b with
    | .agg ys => match Nat.beq xs.length ys.length with
      | true => .agg (mergeAVs t xs ys)
      | false => .unk
    | _ => .unk
  | .tup xs, b => match b with
    | .tup ys => match Nat.beq xs.length ys.length with
      | true => .tup (mergeAVs t xs ys)
      | false => .unk
    | _ => .unk
  | .unk, _ => .unk
  | .any .., _ => .unk
  | .ptr .., _ => .unk
  | .sl .., _ => .unk
  | .gd .., _ => .unk
  | .clo .., _ => .unk
  | .yld .., _ => .unk
  | .mp .., _ => .unk
def mergeAVs (t : Bool) : List AV → List AV → List AV
  | [], _ => []
  | x :: xs, l => match l with
    | [] => []
    | y :: ys => mergeAV t x y :: mergeAVs t xs ys
end
def clean1 (a : AV) : AV := match isGd a with
  | true => .unk
  | false => a
def mergeT (ds : List Nat) (t : Bool) : Nat → List AV → List AV → List AV → List AV
  | i, a :: r, a1 :: r1, a2 :: r2 => (match ds.any (Nat.beq i) with
    | true => mergeAV t a1 a2
    | false => clean1 a) :: mergeT ds t (i + 1) r r1 r2
  | _, _, _, _ => []
def seqRunP (P : Program) (E : Env) (ops : Array Oper) : List Oper → List AV → MS → Option (List AV × List Bool)
  | [], tm, _ => some (tm, [])
  | o :: r, tm, m => match stepA P E ops o tm m with
    | some (v, none, bs) => match seqRunP P E ops r (putA tm o.dst v) m with
      | some (tm', bs') => some (tm', bs ++ bs')
      | none => none
    | _ => none
def dstsOf : List Oper → List Nat
  | [] => []
  | o :: r => match o.dst with
    | some d => d :: dstsOf r
    | none => dstsOf r
def dstsC : Code → List Nat
  | .region _ ops _ => dstsOf ops.toList
  | .seq a b => dstsC a ++ dstsC b
  | .cond _ x y => dstsC x ++ dstsC y
  | .scope b => dstsC b
  | .block _ b => dstsC b
  | _ => []
def segA (P : Program) (E : Env) : Nat → Code → List AV → MS → Option (List AV × List Bool)
  | 0, _, _, _ => none
  | n + 1, c, tm, m => match c with
    | .skip => some (tm, [])
    | .label _ => some (tm, [])
    | .seq a b => match segA P E n a tm m with
      | some (t1, b1) => match segA P E n b t1 m with
        | some (t2, b2) => some (t2, b1 ++ b2)
        | none => none
      | none => none
    | .region _ ops draw => match draw with
      | false => match guardsOk ops.toList with
        | true => seqRunP P E ops ops.toList (cleanA tm) m
        | false => none
      | true => none
    | .scope b => segA P E n b tm m
    | .block _ b => segA P E n b tm m
    | .cond c x y => match evA tm c with
      | .val (.bool t) => match segA P E n x tm m, segA P E n y tm m with
        | some (t1, b1), some (t2, b2) => some (mergeT (dstsC x ++ dstsC y) t 0 tm t1 t2, imps t b1 ++ imps (!t) b2)
        | _, _ => none
      | _ => none
    | _ => none
section
variable {P : Program} {E : Env} {ρ : Rho} {nx : Nat}
theorem mergeV_ok {t : Bool} {u v x : Value} (h : x = bif t then u else v) : AV.rel ρ nx (mergeV t u v) x := by
  unfold mergeV
  split
  · split
    · rename_i hk
      have hk := of_decide_eq_true hk
      subst hk
      cases t <;> simpa [AV.rel] using h
    · simp only [AV.rel]
  · cases t <;> simpa [AV.rel] using h
  · cases t <;> simpa [AV.rel] using h
  · cases t <;> simpa [AV.rel] using h
  · cases t <;> simpa [AV.rel] using h
  · simp only [AV.rel]
mutual
theorem mergeAV_ok {t : Bool} : ∀ (a b : AV) (x : Value), AV.rel ρ nx (bif t then a else b) x → AV.rel ρ nx (mergeAV t a b) x
  | .val u, b, x, h => by
    simp only [mergeAV]
    split
    · rename_i v
      refine mergeV_ok ?_
      cases t <;> simpa [AV.rel] using h
    · simp only [AV.rel]
  | .agg xs, b, x, h => by
    simp only [mergeAV]
    split
    · rename_i ys
      split
      · rename_i hl
        have hl := Nat.eq_of_beq_eq_true hl
        have h' : AV.rel ρ nx (.agg (bif t then xs else ys)) x := by cases t <;> simpa using h
        simp only [AV.rel] at h' ⊢
        obtain ⟨zs, e, h1⟩ := h'
        exact ⟨zs, e, mergeAVs_ok xs ys zs hl h1⟩
      · simp only [AV.rel]
    · simp only [AV.rel]
  | .tup xs, b, x, h => by
    simp only [mergeAV]
    split
    · rename_i ys
      split
      · rename_i hl
        have hl := Nat.eq_of_beq_eq_true hl
        have h' : AV.rel ρ nx (.tup (bif t then xs else ys)) x := by cases t <;> simpa using h
        simp only [AV.rel] at h' ⊢
        obtain ⟨zs, e, h1⟩ := h'
        exact ⟨zs, e, mergeAVs_ok xs ys zs hl h1⟩
      · simp only [AV.rel]
    · simp only [AV.rel]
  | .unk, _, _, _ => by simp only [mergeAV, AV.rel]
  | .any .., _, _, _ => by simp only [mergeAV, AV.rel]
  | .ptr .., _, _, _ => by simp only [mergeAV, AV.rel]
  | .sl .., _, _, _ => by simp only [mergeAV, AV.rel]
  | .gd .., _, _, _ => by simp only [mergeAV, AV.rel]
  | .clo .., _, _, _ => by simp only [mergeAV, AV.rel]
  | .yld .., _, _, _ => by simp only [mergeAV, AV.rel]
  | .mp .., _, _, _ => by simp only [mergeAV, AV.rel]
theorem mergeAVs_ok {t : Bool} : ∀ (xs ys : List AV) (zs : List Value), xs.length = ys.length → AV.rels ρ nx (bif t then xs else ys) zs → AV.rels ρ nx (mergeAVs t xs ys) zs
  | [], [], zs, _, h => by cases t <;> simpa [mergeAVs] using h
  | x :: xs, y :: ys, zs, hl, h => by
    have e : (bif t then x :: xs else y :: ys) = (bif t then x else y) :: (bif t then xs else ys) := by cases t <;> rfl
    rw [e] at h
    simp only [AV.rels, mergeAVs] at h ⊢
    obtain ⟨z, zs', e', h1, h2⟩ := h
    exact ⟨z, zs', e', mergeAV_ok x y z h1, mergeAVs_ok xs ys zs' (by simpa using hl) h2⟩
  | [], y :: ys, zs, hl, _ => by simp at hl
  | x :: xs, [], zs, hl, _ => by simp at hl
end
theorem clean1_ok {a : AV} {x : Value} (h : AV.rel ρ nx a x) : AV.rel ρ nx (clean1 a) x := by
  unfold clean1
  split
  · simp only [AV.rel]
  · exact h
theorem clean1_idem (a : AV) : clean1 (clean1 a) = clean1 a := by
  unfold clean1
  cases h : isGd a with
  | true => rfl
  | false => simp only [h]
/-- What was not set stays. -/
structure Keeps (ds : List Nat) (tm tm' : List AV) : Prop where
  len : tm'.length = tm.length
  at_ : ∀ i a, i ∉ ds → tm[i]? = some a → tm'[i]? = some a ∨ tm'[i]? = some (clean1 a)
theorem Keeps.refl (ds : List Nat) (tm : List AV) : Keeps ds tm tm := ⟨rfl, fun _ _ _ h => .inl h⟩
theorem Keeps.trans {ds ds' : List Nat} {t1 t2 t3 : List AV} (h : Keeps ds t1 t2) (h' : Keeps ds' t2 t3) : Keeps (ds ++ ds') t1 t3 where
  len := h'.len.trans h.len
  at_ i a hi ha := by
    simp only [List.mem_append, not_or] at hi
    rcases h.at_ i a hi.1 ha with h1 | h1
    · exact h'.at_ i a hi.2 h1
    · rcases h'.at_ i _ hi.2 h1 with h2 | h2
      · exact .inr h2
      · rw [clean1_idem] at h2; exact .inr h2
theorem cleanA_keeps : ∀ tm : List AV, Keeps [] tm (cleanA tm)
  | [] => ⟨rfl, fun i a _ h => by simp at h⟩
  | b :: r => by
    have ih := cleanA_keeps r
    refine ⟨by simp only [cleanA, List.length_cons, ih.len], fun i a _ h => ?_⟩
    cases i with
    | zero =>
      simp at h
      subst h
      exact .inr rfl
    | succ i =>
      have := ih.at_ i a (by simp) (by simpa using h)
      simpa [cleanA] using this
theorem mem_any {i : Nat} : ∀ {ds : List Nat}, ds.any (Nat.beq i) = false → i ∉ ds
  | [], _ => by simp
  | d :: ds, h => by
    simp only [List.any_cons, Bool.or_eq_false_iff] at h
    intro hm
    rcases List.mem_cons.1 hm with rfl | hm
    · simp at h
    · exact mem_any h.2 hm
theorem mergeT_ok {ds : List Nat} {t : Bool} : ∀ (i : Nat) (tm t1 t2 : List AV) (xs : List Value), t1.length = tm.length → t2.length = tm.length → AV.rels ρ nx (bif t then t1 else t2) xs →
    (∀ j a, i + j ∉ ds → tm[j]? = some a → (bif t then t1 else t2)[j]? = some a ∨ (bif t then t1 else t2)[j]? = some (clean1 a)) → AV.rels ρ nx (mergeT ds t i tm t1 t2) xs
  | i, [], [], [], xs, _, _, h, _ => by cases t <;> simpa [mergeT] using h
  | i, a :: tm, a1 :: t1, a2 :: t2, xs, h1, h2, h, hk => by
    have e : (bif t then a1 :: t1 else a2 :: t2) = (bif t then a1 else a2) :: (bif t then t1 else t2) := by cases t <;> rfl
    rw [e] at h
    simp only [AV.rels] at h
    obtain ⟨y, ys, rfl, g1, g2⟩ := h
    simp only [mergeT, AV.rels]
    refine ⟨y, ys, rfl, ?_, mergeT_ok (i + 1) tm t1 t2 ys (by simpa using h1) (by simpa using h2) g2 fun j b hj hb => ?_⟩
    · split
      · exact mergeAV_ok a1 a2 y g1
      · rename_i hd
        have := hk 0 a (by simpa using mem_any hd) rfl
        rw [e] at this
        simp at this
        rcases this with h3 | h3
        · rw [h3] at g1; exact clean1_ok g1
        · rw [h3] at g1; exact g1
    · have := hk (j + 1) b (by rw [show i + (j + 1) = i + 1 + j by omega]; exact hj) (by simpa using hb)
      rw [e] at this
      simpa using this
  | i, [], _ :: _, _, xs, h1, _, _, _ => by simp at h1
  | i, [], [], _ :: _, xs, _, h2, _, _ => by simp at h2
  | i, _ :: _, [], _, xs, h1, _, _, _ => by simp at h1
  | i, _ :: _, _ :: _, [], xs, _, h2, _, _ => by simp at h2
theorem mergeT_keeps {ds : List Nat} {t : Bool} : ∀ (i : Nat) (tm t1 t2 : List AV), t1.length = tm.length → t2.length = tm.length → (mergeT ds t i tm t1 t2).length = tm.length ∧ ∀ j a, i + j ∉ ds → tm[j]? = some a → (mergeT ds t i tm t1 t2)[j]? = some (clean1 a)
  | i, [], [], [], _, _ => ⟨rfl, fun j a _ h => by simp at h⟩
  | i, a :: tm, a1 :: t1, a2 :: t2, h1, h2 => by
    obtain ⟨g1, g2⟩ := mergeT_keeps (ds := ds) (t := t) (i + 1) tm t1 t2 (by simpa using h1) (by simpa using h2)
    refine ⟨by simp only [mergeT, List.length_cons, g1], fun j b hj hb => ?_⟩
    cases j with
    | zero =>
      simp at hb
      subst hb
      simp only [mergeT, List.getElem?_cons_zero]
      split
      · rename_i hd
        exfalso
        have : ∃ d ∈ ds, Nat.beq i d = true := List.any_eq_true.1 hd
        obtain ⟨d, hd1, hd2⟩ := this
        have := Nat.eq_of_beq_eq_true hd2
        exact hj (by rw [Nat.add_zero, this]; exact hd1)
      · rfl
    | succ j =>
      have := g2 j b (by rw [show i + 1 + j = i + (j + 1) by omega]; exact hj) (by simpa using hb)
      simpa [mergeT] using this
  | i, [], _ :: _, _, h1, _ => by simp at h1
  | i, [], [], _ :: _, _, h2 => by simp at h2
  | i, _ :: _, [], _, h1, _ => by simp at h1
  | i, _ :: _, _ :: _, [], _, h2 => by simp at h2
theorem seqRunP_eq {ops : Array Oper} : ∀ (l : List Oper) (tm : List AV) (m : MS) (tm' : List AV) (bs : List Bool), seqRunP P E ops l tm m = some (tm', bs) → seqRun P E ops l tm m = some (tm', m, bs) ∧ Keeps (dstsOf l) tm tm'
  | [], tm, m, tm', bs, h => by cases h; exact ⟨rfl, Keeps.refl _ _⟩
  | o :: r, tm, m, tm', bs, h => by
    simp only [seqRunP] at h
    cases hs : stepA P E ops o tm m with
    | none => rw [hs] at h; cases h
    | some q =>
      obtain ⟨v, mo, b1⟩ := q
      rw [hs] at h
      cases mo with
      | some _ => cases h
      | none =>
        dsimp only at h
        cases hr : seqRunP P E ops r (putA tm o.dst v) m with
        | none => rw [hr] at h; cases h
        | some p =>
          obtain ⟨t2, b2⟩ := p
          rw [hr] at h
          cases h
          obtain ⟨g1, g2⟩ := seqRunP_eq r _ _ _ _ hr
          refine ⟨?_, ?_⟩
          · simp only [seqRun, hs, orM, g1]
          · refine ⟨?_, fun i a hi ha => ?_⟩
            · rw [g2.len]; cases o.dst <;> simp [putA]
            · have hi2 : i ∉ dstsOf r ∧ o.dst ≠ some i := by
                simp only [dstsOf] at hi
                cases hd : o.dst with
                | none => rw [hd] at hi; exact ⟨hi, by simp⟩
                | some d =>
                  rw [hd] at hi
                  simp only [List.mem_cons, not_or] at hi
                  exact ⟨hi.2, fun e => hi.1 (by cases e; rfl)⟩
              refine g2.at_ i a hi2.1 ?_
              cases hd : o.dst with
              | none => exact ha
              | some d =>
                simp only [putA]
                rw [List.getElem?_set_ne (fun e => hi2.2 (by rw [hd, e]))]
                exact ha
end
end Go.Proofs.Ytmjpikkloofakaa

namespace Go.Proofs.Ytmjpikkloofakaa
open Go Go.RowKit

inductive Out where
  | ret (tm : List AV) (m : MS)
  | head (todo : List Item) (tm : List AV) (m : MS)
  | left (jump : Option Code) (tm : List AV) (m : MS)
def maskA (live : List Nat) : Nat → List AV → List AV
  | _, [] => []
  | i, a :: r => (match live.any (Nat.beq i) with | true => a | false => .unk) :: maskA live (i + 1) r
/-- Where to stand still: how deep, which variables and names are wanted on, how many names there are then. -/
abbrev Cut := Nat × List Nat × List Nat × Nat
def cutAt : List Cut → Nat → Option (List Nat × List Nat × Nat)
  | [], _ => none
  | (n, c) :: r, k => match Nat.beq n k with
    | true => some c
    | false => cutAt r k
/-- The names of single slices in cells are let go. -/
def ABlk.clean : ABlk → ABlk
  | ⟨w, o, .obj (.nest cs _)⟩ => ⟨w, o, .obj (.nest cs [])⟩
  | b => b
def cleanO : Option ABlk → Option ABlk
  | some b => some b.clean
  | none => none
theorem ABlk.clean_is (b : ABlk) : b.clean = b ∨ ∃ cs fo, b.cont = .obj (.nest cs fo) ∧ b.clean = ⟨b.wr, b.op, .obj (.nest cs [])⟩ := by
  obtain ⟨wr, op, k⟩ := b
  cases k with
  | obj q =>
    cases q with
    | nest cs fo => exact .inr ⟨cs, fo, rfl, rfl⟩
    | _ => exact .inl rfl
  | _ => exact .inl rfl
theorem ABlk.clean_wr (b : ABlk) : b.clean.wr = b.wr := by
  rcases b.clean_is with h | ⟨cs, fo, h1, h2⟩
  · rw [h]
  · rw [h2]
theorem ABlk.clean_nested (b : ABlk) : b.clean.cont.nested = b.cont.nested := by
  rcases b.clean_is with h | ⟨cs, fo, h1, h2⟩
  · rw [h]
  · rw [h2, h1]; rfl
theorem ABlk.clean_void {b : ABlk} (h : b.void) : b.clean.void := by
  rcases b.clean_is with e | ⟨cs, fo, h1, h2⟩
  · rw [e]; exact h
  · rw [h2]
    refine ⟨h.1, h.2.1, fun q hq => ?_, fun r c a ha => by cases ha⟩
    cases hq
    have := h.2.2.1 _ h1
    exact this
theorem ABlk.clean_ok {ρ : Rho} {nx : Nat} {b : ABlk} {i : LI} {w : World} (h : b.ok ρ nx i w) : b.clean.ok ρ nx i w := by
  rcases b.clean_is with e | ⟨cs, fo, h1, h2⟩
  · rw [e]; exact h
  · refine ⟨h.lt.imp id ABlk.clean_void, ?_, ?_, ?_, ?_⟩
    · rw [h2]; exact fun r c a ha => by cases ha
    · rw [h2]; exact h.free
    · rw [h2]; exact h.room
    · rw [h2]
      intro q hq
      cases hq
      have := h.obj _ h1
      exact this
def keepB (m : MS) : List Nat → List (Nat × Option ABlk)
  | [] => []
  | l :: r => (l, cleanO (look m.bl l)) :: keepB m r
mutual
/-- All names are below this number. -/
def AV.locsB (n : Nat) : AV → Bool
  | .unk => true
  | .val _ => true
  | .any _ => true
  | .ptr l _ _ _ => Nat.blt l n
  | .sl _ l _ _ _ _ _ => Nat.blt l n
  | .gd _ _ _ v => AV.locsB n v
  | .clo _ a b => AV.locsBs n a && AV.locsBs n b
  | .agg cs => AV.locsBs n cs
  | .tup cs => AV.locsBs n cs
  | .yld l => Nat.blt l n
  | .mp l => Nat.blt l n
def AV.locsBs (n : Nat) : List AV → Bool
  | [] => true
  | a :: r => AV.locsB n a && AV.locsBs n r
end
def Cont.locsB (n : Nat) : Cont → Bool
  | .cells l => AV.locsBs n l
  | .obj (.loop _ _ tm _ _ _) => AV.locsBs n tm
  | .obj (.mit tm _ _) => AV.locsBs n tm
  | .obj (.typed _ l) => AV.locsBs n l
  | .obj (.nest _ fo) => AV.locsBs n (foAVs fo)
  | _ => true
def blocksB (n : Nat) : List (Nat × Option ABlk) → Bool
  | [] => true
  | (l, some b) :: r => Nat.blt l n && (b.cont.locsB n && blocksB n r)
  | (_, none) :: r => blocksB n r
def regA (P : Program) (E : Env) (D : Array Oper → List AV → MS → Option (List AV × MS × List Bool)) (ops : Array Oper) (draw : Bool) (tm : List AV) (m : MS) : Option (List AV × MS × List Bool) := match draw with
  | false => seqA P E ops (cleanA tm) m
  | true => D ops (cleanA tm) m
def mrgOn (cuts : List Cut) : Bool := cuts.any fun c => Nat.beq c.1 777777
/-- Both branches at once, where that is asked for. -/
def mrgA (P : Program) (E : Env) (cuts : List Cut) (c : Code) (tm : List AV) (m : MS) : Option (List AV × List Bool) := match mrgOn cuts with
  | true => segA P E 1000 c tm m
  | false => none
/-- The mark that asks for it, among the cuts. -/
def mrgC : Cut := (777777, [], [], 1000000000)
/-- A run within a loop's round: so marked among the cuts. -/
def rndOn (cuts : List Cut) : Bool := cuts.any fun c => Nat.beq c.1 777778
def rndC : Cut := (777778, [], [], 1000000000)
def outA (cuts : List Cut) (j : Option Code) (tm : List AV) (m : MS) : Out := match rndOn cuts with
  | true => .left j tm m
  | false => .ret tm m
def run {β : Type} (P : Program) (E : Env) (D : Array Oper → List AV → MS → Option (List AV × MS × List Bool)) (cuts : List Cut) (K : Out → List Bool → Option β) : Nat → List Item → List AV → MS → List Bool → Option β
  | 0, _, _, _, _ => none
  | n + 1, todo, tm, m, acc => match todo with
    | [] => K (outA cuts none tm m) acc
    | .code c :: k => match c with
      | .ret => K (outA cuts (some .ret) tm m) acc
      | .skip => run P E D cuts K n k tm m acc
      | .label _ => run P E D cuts K n k tm m acc
      | .seq a b => run P E D cuts K n (.code a :: .code b :: k) tm m acc
      | .cond c x y => match mrgA P E cuts (.cond c x y) tm m with
        | some (tm', bs) => run P E D cuts K n k tm' m (acc ++ bs)
        | none => match evA tm c with
          | .val (.bool t) => bif t then run P E D cuts K n (.code x :: k) tm m acc else run P E D cuts K n (.code y :: k) tm m acc
          | _ => none
      | .block id b => run P E D cuts K n (.code b :: .inBlock id :: k) tm m acc
      | .loop b => match cutAt cuts k.length with
        | some (live, names, nx) => match AV.locsBs nx (maskA live 0 tm) && blocksB nx (keepB m names) with
          | true => K (.head (.code b :: .inLoop b :: k) (maskA live 0 tm) ⟨keepB m names, nx⟩) acc
          | false => none
        | none => run P E D cuts K n (.code b :: .inLoop b :: k) tm m acc
      | .scope b => run P E D cuts K n (.code b :: .inScope b :: k) tm m acc
      | .exit id => match exitTo id k with
        | some k' => run P E D cuts K n k' tm m acc
        | none => match rndOn cuts with
          | true => K (.left (some (.exit id)) tm m) acc
          | false => none
      | .rangeFunc g ps asg body => match cutAt cuts (888888 + k.length) with
        | some (live, names, nx) => match AV.locsBs nx (maskA live 0 tm) && blocksB nx (keepB m names) with
          | true => K (.head (.code (.rangeFunc g ps asg body) :: k) (maskA live 0 tm) ⟨keepB m names, nx⟩) acc
          | false => none
        | none => none
      | .region _ ops draw => match regA P E D ops draw tm m with
        | some (tm', m', bs) => run P E D cuts K n k tm' m' (acc ++ bs)
        | none => none
      | _ => none
    | .inBlock _ :: k => run P E D cuts K n k tm m acc
    | .inScope _ :: k => run P E D cuts K n k tm m acc
    | .inLoop b :: k => match cutAt cuts k.length with
      | some (live, names, nx) => match AV.locsBs nx (maskA live 0 tm) && blocksB nx (keepB m names) with
        | true => K (.head (.code b :: .inLoop b :: k) (maskA live 0 tm) ⟨keepB m names, nx⟩) acc
        | false => none
      | none => run P E D cuts K n (.code b :: .inLoop b :: k) tm m acc
    | _ => none
section
variable {P : Program} {E : Env} {D : Array Oper → List AV → MS → Option (List AV × MS × List Bool)} {cuts : List Cut}
structure St where
  todo : List Item
  tm : List AV
  m : MS
/-- From here one comes to there. -/
def Goes (P : Program) (B : Nat) (s s' : St) : Prop := ∀ (b : Frame) (cs : List Frame) (ρ : Rho) (a : Act) (w : World), AV.rels ρ s.m.nx s.tm a.tmps.toList → MRel ρ s.m w → B ≤ s.m.nx →
  ∃ ρ' a' w', Steps P (lone (b.atR a s.todo) cs w) (lone (b.atR a' s'.todo) cs w') ∧ AV.rels ρ' s'.m.nx s'.tm a'.tmps.toList ∧ a'.defers = a.defers ∧ MRel ρ' s'.m w' ∧ Moves B ρ ρ' s.m s'.m w w'
/-- From here the function returns. -/
def Rets (P : Program) (B : Nat) (s : St) (tm' : List AV) (m' : MS) : Prop := ∀ (b : Frame) (cs : List Frame) (ρ : Rho) (a : Act) (w : World), b.roundOf = none → AV.rels ρ s.m.nx s.tm a.tmps.toList → MRel ρ s.m w → B ≤ s.m.nx →
  ∃ ρ' a' w' todo, Steps P (lone (b.atR a s.todo) cs w) (lone { b.atR a' todo with mode := .returning } cs w') ∧ AV.rels ρ' m'.nx tm' a'.tmps.toList ∧ a'.defers = a.defers ∧ MRel ρ' m' w' ∧ Moves B ρ ρ' s.m m' w w'
/-- How a round is left. -/
def LeftAt (todo : List Item) : Option Code → Prop
  | none => todo = []
  | some .ret => ∃ k, todo = .code .ret :: k
  | some (.exit id) => ∃ k, todo = .code (.exit id) :: k ∧ exitTo id k = none
  | _ => False
def Leaves (P : Program) (B : Nat) (s : St) (j : Option Code) (tm' : List AV) (m' : MS) : Prop := ∀ (b : Frame) (cs : List Frame) (ρ : Rho) (a : Act) (w : World), AV.rels ρ s.m.nx s.tm a.tmps.toList → MRel ρ s.m w → B ≤ s.m.nx →
  ∃ ρ' a' w' todo, Steps P (lone (b.atR a s.todo) cs w) (lone (b.atR a' todo) cs w') ∧ LeftAt todo j ∧ AV.rels ρ' m'.nx tm' a'.tmps.toList ∧ a'.defers = a.defers ∧ MRel ρ' m' w' ∧ Moves B ρ ρ' s.m m' w w'
def Ends (P : Program) (B : Nat) (s : St) : Out → Prop
  | .ret tm m => Rets P B s tm m
  | .head todo tm m => Goes P B s ⟨todo, tm, m⟩
  | .left j tm m => Leaves P B s j tm m
theorem stepR_scope {P : Program} {b : Frame} {a : Act} {k : List Item} {cs : List Frame} {w : World} {c : Code} :
    step P (lone (b.atR a (.code (.scope c) :: k)) cs w) = .next (lone (b.atR a (.code c :: .inScope c :: k)) cs w) :=
  step_lone_go (by simp [stepG, stepG.exec, Frame.atR])
theorem stepR_inScope {P : Program} {b : Frame} {a : Act} {k : List Item} {cs : List Frame} {w : World} {c : Code} :
    step P (lone (b.atR a (.inScope c :: k)) cs w) = .next (lone (b.atR a k) cs w) :=
  step_lone_go (by simp [stepG, stepG.exec, Frame.atR])
theorem Goes.refl {B : Nat} {s : St} : Goes P B s s := fun b cs ρ a w ht hm hB => ⟨ρ, a, w, Steps.refl _ _, ht, rfl, hm, Moves.refl hB⟩
theorem Goes.trans {B : Nat} {s s' s'' : St} (h : Goes P B s s') (h' : Goes P B s' s'') : Goes P B s s'' := fun b cs ρ a w ht hm hB => by
  obtain ⟨ρ1, a1, w1, st1, ht1, hd1, hm1, mv1⟩ := h b cs ρ a w ht hm hB
  obtain ⟨ρ2, a2, w2, st2, ht2, hd2, hm2, mv2⟩ := h' b cs ρ1 a1 w1 ht1 hm1 mv1.nx
  exact ⟨ρ2, a2, w2, st1.trans st2, ht2, hd2.trans hd1, hm2, mv1.trans mv2⟩
theorem Goes.rets {B : Nat} {s s' : St} {tm' : List AV} {m' : MS} (h : Goes P B s s') (h' : Rets P B s' tm' m') : Rets P B s tm' m' := fun b cs ρ a w hro ht hm hB => by
  obtain ⟨ρ1, a1, w1, st1, ht1, hd1, hm1, mv1⟩ := h b cs ρ a w ht hm hB
  obtain ⟨ρ2, a2, w2, todo, st2, ht2, hd2, hm2, mv2⟩ := h' b cs ρ1 a1 w1 hro ht1 hm1 mv1.nx
  exact ⟨ρ2, a2, w2, todo, st1.trans st2, ht2, hd2.trans hd1, hm2, mv1.trans mv2⟩
theorem Goes.leaves {B : Nat} {s s' : St} {j : Option Code} {tm' : List AV} {m' : MS} (h : Goes P B s s') (h' : Leaves P B s' j tm' m') : Leaves P B s j tm' m' := fun b cs ρ a w ht hm hB => by
  obtain ⟨ρ1, a1, w1, st1, ht1, hd1, hm1, mv1⟩ := h b cs ρ a w ht hm hB
  obtain ⟨ρ2, a2, w2, todo, st2, hl, ht2, hd2, hm2, mv2⟩ := h' b cs ρ1 a1 w1 ht1 hm1 mv1.nx
  exact ⟨ρ2, a2, w2, todo, st1.trans st2, hl, ht2, hd2.trans hd1, hm2, mv1.trans mv2⟩
theorem Goes.ends {B : Nat} {s s' : St} {o : Out} (h : Goes P B s s') (h' : Ends P B s' o) : Ends P B s o := by
  cases o with
  | ret tm m => exact Goes.rets h h'
  | head todo tm m => exact Goes.trans h h'
  | left j tm m => exact Goes.leaves h h'
theorem Goes.step {B : Nat} {todo todo' : List Item} {tm : List AV} {m : MS} (h : ∀ (b : Frame) (cs : List Frame) (a : Act) (w : World) (ρ : Rho), AV.rels ρ m.nx tm a.tmps.toList → Steps P (lone (b.atR a todo) cs w) (lone (b.atR a todo') cs w)) : Goes P B ⟨todo, tm, m⟩ ⟨todo', tm, m⟩ :=
  fun b cs ρ a w ht hm hB => ⟨ρ, a, w, h b cs a w ρ ht, ht, rfl, hm, Moves.refl hB⟩
theorem maskA_rels {ρ : Rho} {nx : Nat} {live : List Nat} : ∀ {tm : List AV} {xs : List Value} (i : Nat), AV.rels ρ nx tm xs → AV.rels ρ nx (maskA live i tm) xs
  | [], xs, i, h => by simpa [maskA] using h
  | a :: r, xs, i, h => by
    simp only [AV.rels] at h
    obtain ⟨y, ys, rfl, h1, h2⟩ := h
    simp only [maskA, AV.rels]
    refine ⟨y, ys, rfl, ?_, maskA_rels (i + 1) h2⟩
    split
    · exact h1
    · simp [AV.rel]
/-- A region that draws: what is wanted of the reckoning of it. -/
def DSound (P : Program) (D : Array Oper → List AV → MS → Option (List AV × MS × List Bool)) : Prop := ∀ (rid : Nat) (ops : Array Oper) (tm : List AV) (m : MS) (tm' : List AV) (m' : MS) (bs : List Bool), D ops tm m = some (tm', m', bs) → bs.all id = true →
  ∀ (B : Nat) (ρ : Rho) (a : Act) (w : World) (Q : Exit → Act → World → Prop), AV.rels ρ m.nx tm a.tmps.toList → NoGd tm → MRel ρ m w → B ≤ m.nx →
    (∀ ρ' a' w', AV.rels ρ' m'.nx tm' a'.tmps.toList → a'.defers = a.defers → MRel ρ' m' w' → Moves B ρ ρ' m m' w w' → Q .normal a' w') → ∀ (r : Option Nat) (n : Nat), (Code.region rid ops true).wpIn (FW r) n P Q a w
theorem regA_goes {id : Nat} {ops : Array Oper} {draw : Bool} {k : List Item} {tm tm' : List AV} {m m' : MS} {bs : List Bool} {B : Nat} (hE : ESound P E) (hD : DSound P D) (h : regA P E D ops draw tm m = some (tm', m', bs)) (hbs : bs.all _root_.id = true) :
    Goes P B ⟨.code (.region id ops draw) :: k, tm, m⟩ ⟨k, tm', m'⟩ := fun b cs ρ a w ht hm hB => by
  have key : (Code.region id ops draw).wpIn (FW b.roundOf) 0 P (fun e a' w' => e = .normal ∧ ∃ ρ', AV.rels ρ' m'.nx tm' a'.tmps.toList ∧ a'.defers = a.defers ∧ MRel ρ' m' w' ∧ Moves B ρ ρ' m m' w w') a w := by
    cases draw with
    | false =>
      exact wpIn_region (seqA_ok (B := B) b.roundOf 0 hE h hbs (cleanA_rels ht) (cleanA_noGd tm) hm hB fun ρ' a' w' h1 h2 h3 h4 => ⟨rfl, ρ', h1, h2, h3, h4⟩)
    | true => exact hD id ops (cleanA tm) m tm' m' bs h hbs B ρ a w _ (cleanA_rels ht) (cleanA_noGd tm) hm hB (fun ρ' a' w' h1 h2 h3 h4 => ⟨rfl, ρ', h1, h2, h3, h4⟩) b.roundOf 0
  obtain ⟨e, a', w', ⟨rfl, ρ', h1, h2, h3, h4⟩, harr⟩ := key b k cs rfl trivial (fun _ h => by cases h)
  exact ⟨ρ', a', w', StepsIn.steps harr, h1, h2, h3, h4⟩
theorem look_keepB (m : MS) (k : Nat) (b : ABlk) : ∀ ns : List Nat, look (keepB m ns) k = some b → ∃ b0, look m.bl k = some b0 ∧ b = b0.clean
  | [], h => by cases h
  | l :: r, h => by
    simp only [keepB, look_cons] at h
    split at h
    · rename_i e
      subst e
      cases hl : look m.bl l with
      | none => rw [hl] at h; cases h
      | some b0 => rw [hl] at h; cases h; exact ⟨b0, rfl, rfl⟩
    · exact look_keepB m k b r h
theorem MRel.kept {ρ : Rho} {m : MS} {w : World} {bl : List (Nat × Option ABlk)} (h : MRel ρ m w) (n : Nat) (hn : m.nx ≤ n) (hl : ∀ l b, look bl l = some b → ∃ b0, look m.bl l = some b0 ∧ b = b0.clean) : MRel ρ ⟨bl, n⟩ w :=
  ⟨fun l b hb => by
    obtain ⟨b0, h1, rfl⟩ := hl l b hb
    have := h.blk l b0 h1
    exact ⟨by have := this.1; simp only; omega, (ABlk.clean_ok this.2).ext (fun _ _ => rfl) hn (Nat.le_refl _) rfl (fun _ _ _ => rfl)⟩,
  fun l b l' b' h1 h2 hw hne hnv => by
    obtain ⟨a, g1, rfl⟩ := hl l b h1
    obtain ⟨a', g2, rfl⟩ := hl l' b' h2
    exact h.apart l a l' a' g1 g2 (by rw [← ABlk.clean_wr]; exact hw) hne (fun hv => hnv (ABlk.clean_void hv)),
  fun l b l' b' h1 h2 hw hn2 => by
    obtain ⟨a, g1, rfl⟩ := hl l b h1
    obtain ⟨a', g2, rfl⟩ := hl l' b' h2
    exact h.deep l a l' a' g1 g2 (by rw [← ABlk.clean_wr]; exact hw) (by rw [← ABlk.clean_nested]; exact hn2)⟩
theorem Wr.kept {ρ : Rho} {m : MS} {bl : List (Nat × Option ABlk)} {n g : Nat} (hl : ∀ l b, look bl l = some b → ∃ b0, look m.bl l = some b0 ∧ b = b0.clean) (h : Wr ρ ⟨bl, n⟩ g) : Wr ρ m g := by
  obtain ⟨l, b, h1, h2, h3⟩ := h
  obtain ⟨a, g1, rfl⟩ := hl l b h1
  exact ⟨l, a, g1, by rw [← ABlk.clean_wr]; exact h2, h3⟩
section
variable {ρ : Rho} {nx n : Nat}
mutual
theorem AV.rel.down : ∀ (a : AV) (x : Value), a.locsB n = true → AV.rel ρ nx a x → AV.rel ρ n a x
  | .unk, _, _, _ => by simp only [AV.rel]
  | .val v, x, _, hx => by simpa only [AV.rel] using hx
  | .any k, x, _, hx => by simpa only [AV.rel] using hx
  | .ptr l w r c, x, h, hx => by
    simp only [AV.rel, AV.locsB] at hx h ⊢
    exact ⟨by simpa [Nat.blt_eq] using h, hx.2⟩
  | .sl nn l w r s k cap, x, h, hx => by
    simp only [AV.rel, AV.locsB] at hx h ⊢
    exact ⟨by simpa [Nat.blt_eq] using h, hx.2⟩
  | .gd _ _ g v, x, h, hx => by
    simp only [AV.rel, AV.locsB] at hx h ⊢
    exact ⟨fun hg => AV.rel.down v x h (hx.1 hg), hx.2⟩
  | .clo f fs cs, x, h, hx => by
    simp only [AV.rel, AV.locsB, Bool.and_eq_true] at hx h ⊢
    obtain ⟨xs, ys, e, h1, h2⟩ := hx
    exact ⟨xs, ys, e, AV.rels.down fs xs h.1 h1, AV.rels.down cs ys h.2 h2⟩
  | .agg cs, x, h, hx => by
    simp only [AV.rel, AV.locsB] at hx h ⊢
    obtain ⟨xs, e, h1⟩ := hx
    exact ⟨xs, e, AV.rels.down cs xs h h1⟩
  | .tup cs, x, h, hx => by
    simp only [AV.rel, AV.locsB] at hx h ⊢
    obtain ⟨xs, e, h1⟩ := hx
    exact ⟨xs, e, AV.rels.down cs xs h h1⟩
  | .yld l, x, h, hx => by
    simp only [AV.rel, AV.locsB] at hx h ⊢
    exact ⟨by simpa [Nat.blt_eq] using h, hx.2⟩
  | .mp l, x, h, hx => by
    simp only [AV.rel, AV.locsB] at hx h ⊢
    exact ⟨by simpa [Nat.blt_eq] using h, hx.2⟩
theorem AV.rels.down : ∀ (as : List AV) (xs : List Value), AV.locsBs n as = true → AV.rels ρ nx as xs → AV.rels ρ n as xs
  | [], xs, _, hx => by simpa only [AV.rels] using hx
  | a :: as, xs, h, hx => by
    simp only [AV.rels, AV.locsBs, Bool.and_eq_true] at hx h ⊢
    obtain ⟨y, ys, e, h1, h2⟩ := hx
    exact ⟨y, ys, e, AV.rel.down a y h.1 h1, AV.rels.down as ys h.2 h2⟩
end
theorem locsBs_at : ∀ {l : List AV} {i : Nat} {a : AV}, AV.locsBs n l = true → l[i]? = some a → a.locsB n = true
  | [], i, a, _, h => by simp at h
  | b :: l, 0, a, h, hi => by
    simp only [AV.locsBs, Bool.and_eq_true] at h
    simp at hi; subst hi; exact h.1
  | b :: l, i + 1, a, h, hi => by
    simp only [AV.locsBs, Bool.and_eq_true] at h
    simp at hi; exact locsBs_at h.2 hi
theorem Cont.locsB_at {k : Cont} {r c : Nat} {a : AV} {b : Bool} (h : k.locsB n = true) (ha : k.at r c = some (a, b)) : a.locsB n = true := by
  have hcol : ∀ (cl : Col) (r : Nat) (a : AV) (b : Bool), cl.at r = (a, b) → a.locsB n = true := fun cl r a b h => by cases cl <;> cases h <;> rfl
  cases k with
  | cells l =>
    cases c <;> simp only [Cont.at] at ha
    · split at ha
      · rename_i hv; cases ha; exact locsBs_at h hv
      · cases ha
    · cases ha
  | col cl =>
    cases c <;> simp only [Cont.at] at ha
    · simp only [Option.some.injEq] at ha; exact hcol cl r a b ha
    · cases ha
  | rows cs =>
    simp only [Cont.at] at ha
    split at ha
    · simp only [Option.some.injEq] at ha; exact hcol _ r a b ha
    · cases ha
  | obj q => cases q with
    | typed t l =>
      cases c <;> simp only [Cont.at] at ha
      · split at ha
        · rename_i hv; cases ha; exact locsBs_at h hv
        · cases ha
      · cases ha
    | glob g c0 => cases c <;> (simp only [Cont.at] at ha; cases ha)
    | loop st pe tm ps asg body => cases c <;> (simp only [Cont.at] at ha; cases ha)
    | trow t s0 => cases c <;> (simp only [Cont.at] at ha; cases ha)
    | mpo fk fv es => cases c <;> (simp only [Cont.at] at ha; cases ha)
    | mit tm n0 seen => cases c <;> (simp only [Cont.at] at ha; cases ha)
    | nest cs0 fo0 =>
      simp only [Cont.at] at ha
      split at ha
      · rename_i hf
        cases ha
        obtain ⟨i, hi⟩ := foAt_get hf
        exact locsBs_at h hi
      · cases ha
theorem QObj.ok.down {q : QObj} {i : LI} {w : World} (h : (Cont.obj q).locsB n = true) (hq : q.ok ρ nx i w) : q.ok ρ n i w := by
  cases q with
  | glob g vs => exact hq
  | loop st pe tm ps asg body =>
    obtain ⟨l, h1, h2, h3, h4, h5⟩ := hq
    exact ⟨l, h1, h2, h3, AV.rels.down _ _ h h4, h5⟩
  | typed t l => exact hq
  | trow t s => exact hq
  | mpo fk fv es => exact hq
  | mit tm n0 seen =>
    obtain ⟨h0, bm, h1, h2⟩ := hq
    exact ⟨h0, bm, h1, AV.rels.down _ _ h h2⟩
  | nest cs fo => exact hq
theorem blocksB_look : ∀ {l : List (Nat × Option ABlk)} {k : Nat} {b : ABlk}, blocksB n l = true → look l k = some b → k < n ∧ b.cont.locsB n = true
  | [], k, b, _, h => by cases h
  | (l, none) :: r, k, b, hb, h => by
    simp only [blocksB] at hb
    rw [look_cons] at h
    split at h
    · cases h
    · exact blocksB_look hb h
  | (l, some b') :: r, k, b, hb, h => by
    simp only [blocksB, Bool.and_eq_true] at hb
    rw [look_cons] at h
    split at h
    · rename_i e; subst e; cases h; exact ⟨by simpa [Nat.blt_eq] using hb.1, hb.2.1⟩
    · exact blocksB_look hb.2.2 h
theorem MRel.cut {m : MS} {w : World} {names : List Nat} (h : MRel ρ m w) (hb : blocksB n (keepB m names) = true) : MRel ρ ⟨keepB m names, n⟩ w :=
  have hk := h.kept m.nx (Nat.le_refl _) fun l b hl => look_keepB m l b names hl
  ⟨fun l b hl => by
    obtain ⟨h1, h2⟩ := blocksB_look hb hl
    have h3 := (hk.blk l b hl).2
    exact ⟨h1, h3.lt, fun r c a ha => by
      obtain ⟨g1, x, g2, g3⟩ := h3.rel r c a ha
      exact ⟨g1, x, g2, AV.rel.down a x (Cont.locsB_at h2 ha) g3⟩, h3.free, h3.room, fun q hq => (h3.obj q hq).down (by rw [← hq]; exact h2)⟩,
   hk.apart, hk.deep⟩
end
/-- All cuts leave the first B names. -/
def cutsB (B : Nat) (cuts : List Cut) : Bool := cuts.all fun c => Nat.ble B c.2.2.2
theorem cutAt_nx {B k : Nat} {live names : List Nat} {nx : Nat} : ∀ {cuts : List Cut}, cutsB B cuts = true → cutAt cuts k = some (live, names, nx) → B ≤ nx
  | [], _, h => by cases h
  | (n, c) :: r, hb, h => by
    simp only [cutsB, List.all_cons, Bool.and_eq_true] at hb
    simp only [cutAt] at h
    split at h
    · cases h; exact Nat.le_of_ble_eq_true hb.1
    · exact cutAt_nx hb.2 h
theorem seg_keeps : ∀ (n : Nat) (c : Code) (tm : List AV) (m : MS) (tm' : List AV) (bs : List Bool), segA P E n c tm m = some (tm', bs) → Keeps (dstsC c) tm tm'
  | 0, c, tm, m, tm', bs, h => by cases h
  | n + 1, c, tm, m, tm', bs, h => by
    simp only [segA] at h
    split at h
    · cases h; exact Keeps.refl _ _
    · cases h; exact Keeps.refl _ _
    · rename_i a b
      split at h
      · rename_i t1 b1 h1
        split at h
        · rename_i t2 b2 h2
          cases h
          exact (seg_keeps n a _ _ _ _ h1).trans (seg_keeps n b _ _ _ _ h2)
        · cases h
      · cases h
    · split at h
      · split at h
        · obtain ⟨_, g2⟩ := seqRunP_eq _ _ _ _ _ h
          exact (cleanA_keeps tm).trans g2
        · cases h
      · cases h
    · rename_i b; exact seg_keeps n b _ _ _ _ h
    · rename_i id b; exact seg_keeps n b _ _ _ _ h
    · rename_i c x y
      split at h
      · split at h
        · rename_i t1 b1 t2 b2 h1 h2
          cases h
          obtain ⟨g1, g2⟩ := mergeT_keeps (ds := dstsC x ++ dstsC y) 0 tm t1 t2 (seg_keeps n x _ _ _ _ h1).len (seg_keeps n y _ _ _ _ h2).len
          exact ⟨g1, fun i a hi ha => .inr (g2 i a (by rw [Nat.zero_add]; exact hi) ha)⟩
        · cases h
      · cases h
    · cases h
theorem imps_all {g : Bool} {l : List Bool} (h : (imps g l).all id = true) (hg : g = true) : l.all id = true := by
  subst hg
  simpa [imps] using h
theorem seg_goes (hE : ESound P E) (hD : DSound P D) : ∀ (n : Nat) (c : Code) (tm : List AV) (m : MS) (tm' : List AV) (bs : List Bool), segA P E n c tm m = some (tm', bs) → bs.all id = true → ∀ (k : List Item) (B : Nat), Goes P B ⟨.code c :: k, tm, m⟩ ⟨k, tm', m⟩
  | 0, c, tm, m, tm', bs, h, _, k, B => by cases h
  | n + 1, c, tm, m, tm', bs, h, hbs, k, B => by
    simp only [segA] at h
    split at h
    · cases h; exact Goes.step fun b cs a w ρ _ => .one stepR_skip
    · cases h; exact Goes.step fun b cs a w ρ _ => .one stepR_label
    · rename_i a b
      split at h
      · rename_i t1 b1 h1
        split at h
        · rename_i t2 b2 h2
          cases h
          obtain ⟨g1, g2⟩ := all_app hbs
          exact Goes.trans (Goes.step fun b cs a w ρ _ => .one stepR_seq) (Goes.trans (seg_goes hE hD n a _ _ _ _ h1 g1 _ B) (seg_goes hE hD n b _ _ _ _ h2 g2 _ B))
        · cases h
      · cases h
    · rename_i id ops draw
      split at h
      · split at h
        · rename_i hg
          obtain ⟨g1, _⟩ := seqRunP_eq _ _ _ _ _ h
          refine regA_goes (D := D) hE hD ?_ hbs
          simp only [regA, seqA, hg, g1]
        · cases h
      · cases h
    · exact Goes.trans (Goes.step fun b cs a w ρ _ => .one stepR_scope) (Goes.trans (seg_goes hE hD n _ _ _ _ _ h hbs _ B) (Goes.step fun b cs a w ρ _ => .one stepR_inScope))
    · exact Goes.trans (Goes.step fun b cs a w ρ _ => .one stepR_block) (Goes.trans (seg_goes hE hD n _ _ _ _ _ h hbs _ B) (Goes.step fun b cs a w ρ _ => .one stepR_inBlock))
    · rename_i c x y
      split at h
      · rename_i t ht
        split at h
        · rename_i t1 b1 t2 b2 h1 h2
          cases h
          obtain ⟨g1, g2⟩ := all_app hbs
          have k1 := seg_keeps n x _ _ _ _ h1
          have k2 := seg_keeps n y _ _ _ _ h2
          have hst : Goes P B ⟨.code (.cond c x y) :: k, tm, m⟩ ⟨.code (if t then x else y) :: k, tm, m⟩ := Goes.step fun b cs a w ρ hr => .one (stepR_cond (by
            have := evA_ok hr c
            rw [ht] at this
            simpa only [AV.rel] using this))
          have hbr : Goes P B ⟨.code (if t then x else y) :: k, tm, m⟩ ⟨k, bif t then t1 else t2, m⟩ := by
            cases t with
            | true => exact seg_goes hE hD n x _ _ _ _ h1 (imps_all g1 rfl) k B
            | false => exact seg_goes hE hD n y _ _ _ _ h2 (imps_all g2 rfl) k B
          refine Goes.trans hst (Goes.trans hbr fun b cs ρ a w hr hm hB => ⟨ρ, a, w, Steps.refl _ _, ?_, rfl, hm, Moves.refl hB⟩)
          refine mergeT_ok 0 tm t1 t2 _ k1.len k2.len hr fun j v hj hv => ?_
          rw [Nat.zero_add] at hj
          simp only [List.mem_append, not_or] at hj
          cases t with
          | true => exact k1.at_ j v hj.1 hv
          | false => exact k2.at_ j v hj.2 hv
        · cases h
      · cases h
    · cases h
theorem run_ok {β : Type} {K : Out → List Bool → Option β} {B : Nat} (hE : ESound P E) (hD : DSound P D) (hC : cutsB B cuts = true) : ∀ (n : Nat) (todo : List Item) (tm : List AV) (m : MS) (acc : List Bool) (r : β), run P E D cuts K n todo tm m acc = some r →
    ∃ o bs, K o bs = some r ∧ (∃ l, bs = acc ++ l) ∧ (bs.all id = true → Ends P B ⟨todo, tm, m⟩ o)
  | 0, todo, tm, m, acc, r, h => by cases h
  | n + 1, todo, tm, m, acc, r, h => by
    have IH := fun todo tm m acc r h => run_ok (K := K) (B := B) hE hD hC n todo tm m acc r h
    have one : ∀ (todo' : List Item), run P E D cuts K n todo' tm m acc = some r → (∀ (b : Frame) (cs : List Frame) (a : Act) (w : World), step P (lone (b.atR a todo) cs w) = .next (lone (b.atR a todo') cs w)) → ∃ o bs, K o bs = some r ∧ (∃ l, bs = acc ++ l) ∧ (bs.all id = true → Ends P B ⟨todo, tm, m⟩ o) := fun todo' h' hs => by
      obtain ⟨o, bs, h0, h1, h2⟩ := IH _ _ _ _ _ h'
      exact ⟨o, bs, h0, h1, fun hb => Goes.ends (Goes.step fun b cs a w ρ _ => .one (hs b cs a w)) (h2 hb)⟩
    have hd : ∀ (todo' : List Item) (live names : List Nat) (nx k0 : Nat), cutAt cuts k0 = some (live, names, nx) → (AV.locsBs nx (maskA live 0 tm) && blocksB nx (keepB m names)) = true → K (Out.head todo' (maskA live 0 tm) ⟨keepB m names, nx⟩) acc = some r → (∀ (b : Frame) (cs : List Frame) (a : Act) (w : World), Steps P (lone (b.atR a todo) cs w) (lone (b.atR a todo') cs w)) → ∃ o bs, K o bs = some r ∧ (∃ l, bs = acc ++ l) ∧ (bs.all id = true → Ends P B ⟨todo, tm, m⟩ o) := fun todo' live names nx k0 hcc hk h' hs => by
      simp only [Bool.and_eq_true] at hk
      exact ⟨_, _, h', ⟨[], by simp⟩, fun _ b cs ρ a w ht hm hB => ⟨ρ, a, w, hs b cs a w, AV.rels.down _ _ hk.1 (maskA_rels 0 ht), rfl, hm.cut hk.2,
        ⟨fun _ _ => rfl, cutAt_nx hC hcc, rfl, rfl, ⟨rfl, Nat.le_refl _⟩, Nat.le_refl _, fun _ _ _ => rfl, fun g hg => .inl (Wr.kept (fun l b hl => look_keepB m l b names hl) hg)⟩⟩⟩
    have rt : ∀ j, K (outA cuts j tm m) acc = some r → LeftAt todo j → (∀ (b : Frame) (cs : List Frame) (a : Act) (w : World), b.roundOf = none → step P (lone (b.atR a todo) cs w) = .next (lone { b.atR a todo with mode := .returning } cs w)) → ∃ o bs, K o bs = some r ∧ (∃ l, bs = acc ++ l) ∧ (bs.all id = true → Ends P B ⟨todo, tm, m⟩ o) := fun j h' hl hs => by
      unfold outA at h'
      split at h'
      · exact ⟨_, _, h', ⟨[], by simp⟩, fun _ b cs ρ a w ht hm hB => ⟨ρ, a, w, todo, Steps.refl _ _, hl, ht, rfl, hm, Moves.refl hB⟩⟩
      · exact ⟨_, _, h', ⟨[], by simp⟩, fun _ b cs ρ a w hro ht hm hB => ⟨ρ, a, w, todo, .one (hs b cs a w hro), ht, rfl, hm, Moves.refl hB⟩⟩
    simp only [run] at h
    split at h
    · exact rt _ h rfl fun b cs a w hro => stepR_end hro
    · split at h
      · exact rt _ h ⟨_, rfl⟩ fun b cs a w hro => stepR_ret hro
      · exact one _ h fun b cs a w => stepR_skip
      · exact one _ h fun b cs a w => stepR_label
      · exact one _ h fun b cs a w => stepR_seq
      · rename_i c x y
        split at h
        · rename_i tm' bs' hmrg
          have hseg : segA P E 1000 (.cond c x y) tm m = some (tm', bs') := by
            unfold mrgA at hmrg
            split at hmrg
            · exact hmrg
            · cases hmrg
          obtain ⟨o, bs, h0, ⟨l, hl⟩, h2⟩ := IH _ _ _ _ _ h
          refine ⟨o, bs, h0, ⟨bs' ++ l, by rw [hl, List.append_assoc]⟩, fun hb => Goes.ends (seg_goes hE hD _ _ _ _ _ _ hseg ?_ _ B) (h2 hb)⟩
          rw [hl] at hb
          exact (all_app (all_app hb).1).2
        split at h
        · rename_i t ht
          have hst : ∀ (b : Frame) (cs : List Frame) (a : Act) (w : World) (ρ : Rho) (k : List Item), AV.rels ρ m.nx tm a.tmps.toList → step P (lone (b.atR a (.code (.cond c x y) :: k)) cs w) = .next (lone (b.atR a (.code (if t then x else y) :: k)) cs w) := fun b cs a w ρ k hr => stepR_cond (by
            have := evA_ok hr c
            rw [ht] at this
            simpa only [AV.rel] using this)
          cases t with
          | true =>
            obtain ⟨o, bs, h0, h1, h2⟩ := IH _ _ _ _ _ h
            exact ⟨o, bs, h0, h1, fun hb => Goes.ends (Goes.step fun b cs a w ρ hr => .one (hst b cs a w ρ _ hr)) (h2 hb)⟩
          | false =>
            obtain ⟨o, bs, h0, h1, h2⟩ := IH _ _ _ _ _ h
            exact ⟨o, bs, h0, h1, fun hb => Goes.ends (Goes.step fun b cs a w ρ hr => .one (hst b cs a w ρ _ hr)) (h2 hb)⟩
        · cases h
      · exact one _ h fun b cs a w => stepR_block
      · split at h
        · rename_i hcc
          split at h
          · rename_i hk
            exact hd _ _ _ _ _ hcc hk h fun b cs a w => .one stepR_loop
          · cases h
        · exact one _ h fun b cs a w => stepR_loop
      · exact one _ h fun b cs a w => stepR_scope
      · split at h
        · rename_i hk
          exact one _ h fun b cs a w => stepR_exit hk
        · rename_i hk
          split at h
          · exact ⟨_, _, h, ⟨[], by simp⟩, fun _ b cs ρ a w ht hm hB => ⟨ρ, a, w, _, Steps.refl _ _, ⟨_, rfl, hk⟩, ht, rfl, hm, Moves.refl hB⟩⟩
          · cases h
      · split at h
        · rename_i hcc
          split at h
          · rename_i hk
            exact hd _ _ _ _ _ hcc hk h fun b cs a w => Steps.refl _ _
          · cases h
        · cases h
      · split at h
        · rename_i tm' m' bs' hreg
          obtain ⟨o, bs, h0, ⟨l, hl⟩, h2⟩ := IH _ _ _ _ _ h
          refine ⟨o, bs, h0, ⟨bs' ++ l, by rw [hl, List.append_assoc]⟩, fun hb => Goes.ends (regA_goes hE hD hreg ?_) (h2 hb)⟩
          rw [hl] at hb
          exact (all_app (all_app hb).1).2
        · cases h
      · cases h
    · exact one _ h fun b cs a w => stepR_inBlock
    · exact one _ h fun b cs a w => stepR_inScope
    · split at h
      · rename_i hcc
        split at h
        · rename_i hk
          exact hd _ _ _ _ _ hcc hk h fun b cs a w => .one stepR_inLoop
        · cases h
      · exact one _ h fun b cs a w => stepR_inLoop
    · cases h
/-- What is handed back. -/
def resOne (P : Program) (tm : List AV) (m : MS) : ResultVar → Option (AV × List Bool)
  | .tmp t => some (evA tm (.tmp t), [])
  | .cell a t => loadA P t m (evA tm (.tmp a))
def resAll (P : Program) (tm : List AV) (m : MS) : List ResultVar → Option (List AV × List Bool)
  | [] => some ([], [])
  | r :: rs => match resOne P tm m r with
    | some (v, b) => match resAll P tm m rs with
      | some (vs, bs) => some (v :: vs, b ++ bs)
      | none => none
    | none => none
def resA (P : Program) (fn : Func) (tm : List AV) (m : MS) : Option (AV × List Bool) := match resAll P tm m fn.results.toList with
  | some ([v], bs) => some (v, bs)
  | some (vs, bs) => some (.tup vs, bs)
  | none => none
theorem resAll_ok {ρ : Rho} {tm : List AV} {m : MS} {a : Act} {w : World} (ht : AV.rels ρ m.nx tm a.tmps.toList) (hm : MRel ρ m w) : ∀ (rs : List ResultVar) (vs : List AV) (bs : List Bool), resAll P tm m rs = some (vs, bs) → bs.all id = true →
    ∃ xs : List Value, (rs.mapM fun | .tmp t => pure (a.tmps.getD t undef) | .cell c t => do loadVar t (← asAddr (a.tmps.getD c undef)) : Sem (List Value)).run P w = .ok xs w ∧ AV.rels ρ m.nx vs xs
  | [], vs, bs, h, _ => by
    cases h
    exact ⟨[], by simp, by simp [AV.rels]⟩
  | r :: rs, vs, bs, h, hbs => by
    simp only [resAll] at h
    cases h1 : resOne P tm m r with
    | none => rw [h1] at h; cases h
    | some p =>
      obtain ⟨v, b⟩ := p
      rw [h1] at h
      dsimp only at h
      cases h2 : resAll P tm m rs with
      | none => rw [h2] at h; cases h
      | some q =>
        obtain ⟨vs', bs'⟩ := q
        rw [h2] at h
        cases h
        obtain ⟨b1, b2⟩ := all_app hbs
        obtain ⟨xs, g1, g2⟩ := resAll_ok ht hm rs vs' bs' h2 b2
        cases r with
        | tmp t =>
          simp only [resOne, Option.some.injEq, Prod.mk.injEq] at h1
          obtain ⟨rfl, rfl⟩ := h1
          refine ⟨a.tmps.getD t undef :: xs, ?_, by simp only [AV.rels]; exact ⟨_, _, rfl, evA_ok ht (.tmp t), g2⟩⟩
          simp only [List.mapM_cons, Sem.run_bind, Sem.run_pure, Result.andThen_ok, g1]
        | cell c t =>
          simp only [resOne] at h1
          obtain ⟨x, hx, hr⟩ := loadA_ok hm h1 (evA_ok ht (.tmp c)) b1
          simp only [Act.eval] at hx
          refine ⟨x :: xs, ?_, by simp only [AV.rels]; exact ⟨_, _, rfl, hr, g2⟩⟩
          have hx' : (do loadVar t (← asAddr (a.tmps.getD c undef)) : Sem Value).run P w = .ok x w := by
            unfold Instr.loadAt Instr.sureAddr at hx
            unfold asAddr
            generalize a.tmps.getD c undef = y at hx ⊢
            cases y <;> simp at hx ⊢
            rename_i q
            cases q <;> simp at hx ⊢
            exact hx
          simp only [List.mapM_cons, Sem.run_bind, Sem.run_pure, Result.andThen_ok, g1] at hx' ⊢
          rw [hx']
          simp only [Result.andThen_ok, g1]
theorem resA_ok {fn : Func} {ρ : Rho} {tm : List AV} {m : MS} {a : Act} {w : World} {v : AV} {bs : List Bool} (h : resA P fn tm m = some (v, bs)) (ht : AV.rels ρ m.nx tm a.tmps.toList) (hm : MRel ρ m w) (hbs : bs.all id = true) :
    PureOk P (results fn a.tmps) ρ m.nx w v := by
  unfold resA at h
  cases hr : resAll P tm m fn.results.toList with
  | none => rw [hr] at h; cases h
  | some p =>
    obtain ⟨vs, bs'⟩ := p
    rw [hr] at h
    have hbs' : bs' = bs := by
      split at h
      · rename_i e; cases e; cases h; rfl
      · rename_i e; cases e; cases h; rfl
      · rename_i e; cases e
    subst hbs'
    obtain ⟨xs, h1, h2⟩ := resAll_ok ht hm _ _ _ hr hbs
    have hrun : (fn.results.mapM fun | .tmp t => pure (a.tmps.getD t undef) | .cell c t => do loadVar t (← asAddr (a.tmps.getD c undef)) : Sem (Array Value)).run P w = .ok xs.toArray w := by
      rw [Array.mapM_eq_mapM_toList]
      simp only [Sem.run_map, h1, Result.andThen_ok]
    have hres : (results fn a.tmps).run P w = .ok (if h : xs.toArray.size = 1 then xs.toArray[0] else .tuple xs.toArray) w := by
      unfold results
      simp only [Sem.run_bind]
      exact congrArg (fun r : Result (Array Value) => r.andThen fun a w' => (pure (if h : a.size = 1 then a[0] else Value.tuple a) : Sem Value).run P w') hrun
    split at h
    · rename_i v1 _ e
      cases e
      cases h
      simp only [AV.rels] at h2
      obtain ⟨y, ys, rfl, g1, rfl⟩ := h2
      exact mkPure y (by rw [hres]; rfl) g1
    · rename_i vs1 _ hne e
      cases e
      cases h
      refine mkPure (.tuple xs.toArray) ?_ (by simp only [AV.rel]; exact ⟨xs, rfl, h2⟩)
      rw [hres, dif_neg]
      intro e1
      have hl := h2.len
      simp at e1
      rw [e1] at hl
      match vs, hl with
      | [v1], _ => exact hne v1 rfl
    · rename_i e; cases e
/-- The state at a function's begin. -/
def enterA (fn : Func) (c : Code) (args : List AV) (m : MS) : St := ⟨[.code c], args ++ List.replicate (fn.ntmps - args.length) .unk, m⟩
def conj : List Bool → Bool
  | [] => true
  | b :: r => b && conj r
theorem conj_all : ∀ {l : List Bool}, conj l = true → l.all id = true
  | [], _ => rfl
  | b :: r, h => by
    simp only [conj, Bool.and_eq_true] at h
    simp [h.1]
    simpa using conj_all h.2
/-- How a run ends: it hands a value back, or stands at a loop's head. -/
inductive Fin_ where
  | ret (v : AV) (m : MS) (chk : Bool)
  | head (todo : List Item) (tm : List AV) (m : MS) (chk : Bool)
/-- Only these names. -/
def keepN (m : MS) : List Nat → List (Nat × Option ABlk)
  | [] => []
  | l :: r => (l, look m.bl l) :: keepN m r
theorem look_keepN (m : MS) (k : Nat) (b : ABlk) : ∀ ns : List Nat, look (keepN m ns) k = some b → look m.bl k = some b
  | [], h => by cases h
  | l :: r, h => by
    simp only [keepN, look_cons] at h
    split at h
    · rename_i e; subst e; exact h
    · exact look_keepN m k b r h
def MS.keep (m : MS) (ns : List Nat) (top : Nat) : MS := ⟨keepN m ns, top⟩
theorem MRel.keep {ρ : Rho} {m : MS} {w : World} (h : MRel ρ m w) (ns : List Nat) (top : Nat) (ht : m.nx ≤ top) : MRel ρ (m.keep ns top) w := h.less (m' := m.keep ns top) ht fun l b hb => look_keepN m l b ns hb
theorem Moves.kept {B : Nat} {ρ ρ' : Rho} {m m' : MS} {w w' : World} (h : Moves B ρ ρ' m m' w w') (ns : List Nat) (top : Nat) (ht : m'.nx ≤ top) : Moves B ρ ρ' m (m'.keep ns top) w w' :=
  ⟨h.ext, Nat.le_trans h.nx ht, h.os, h.tape, h.output, h.size, h.keep, fun g ⟨l, b, h1, h2, h3⟩ => h.fresh g ⟨l, b, look_keepN m' l b ns h1, h2, h3⟩⟩
def finA (P : Program) (fn : Func) (ns : List Nat) (top : Nat) : Out → List Bool → Option Fin_
  | .ret tm m, bs => match Nat.ble m.nx top with
    | true => match resA P fn tm m with
      | some (v, bs') => some (.ret v (m.keep ns top) (conj (bs ++ bs')))
      | none => none
    | false => none
  | .head todo tm m, bs => some (.head todo tm m (conj bs))
  | .left .., _ => none
def bodyOf (f : Func) : Code := match f.body with
  | some c => c
  | none => .skip
/-- A whole function, from its begin. -/
def fun_ (P : Program) (E : Env) (D : Array Oper → List AV → MS → Option (List AV × MS × List Bool)) (f : Func) (cuts : List Cut) (ns : List Nat) (top : Nat) (args : List AV) (m : MS) : Option Fin_ :=
  run P E D cuts (finA P f ns top) 1000000 (enterA f (bodyOf f) args m).todo (enterA f (bodyOf f) args m).tm m []
/-- From a loop's head on. -/
def from_ (P : Program) (E : Env) (D : Array Oper → List AV → MS → Option (List AV × MS × List Bool)) (f : Func) (cuts : List Cut) (ns : List Nat) (top : Nat) (todo : List Item) (tm : List AV) (m : MS) : Option Fin_ :=
  run P E D cuts (finA P f ns top) 1000000 todo tm m []
/-- The heads of the loops, one by one. -/
def headsOf : Code → List Item → List (List Item)
  | .seq a b, k => headsOf a (.code b :: k) ++ headsOf b k
  | .cond _ x y, k => headsOf x k ++ headsOf y k
  | .block id b, k => headsOf b (.inBlock id :: k)
  | .loop b, k => (.code b :: .inLoop b :: k) :: headsOf b (.inLoop b :: k)
  | .scope b, k => headsOf b (.inScope b :: k)
  | _, _ => []
def hd (f : Func) (i : Nat) : List Item := (headsOf (bodyOf f) []).getD i []
theorem AV.rels.up {ρ : Rho} {nx nx' : Nat} {as : List AV} {xs : List Value} (h : AV.rels ρ nx as xs) (hn : nx ≤ nx') : AV.rels ρ nx' as xs := AV.rels.ext (fun _ _ => rfl) hn _ _ h
theorem AV.rel.up {ρ : Rho} {nx nx' : Nat} {a : AV} {x : Value} (h : AV.rel ρ nx a x) (hn : nx ≤ nx') : AV.rel ρ nx' a x := AV.rel.ext (fun _ _ => rfl) hn _ _ h
theorem Goes.keep {B : Nat} {s : St} {todo : List Item} {tm : List AV} {m : MS} (h : Goes P B s ⟨todo, tm, m⟩) (ns : List Nat) (top : Nat) (hn : m.nx ≤ top) : Goes P B s ⟨todo, tm, m.keep ns top⟩ := fun b cs ρ a w ht hm hB => by
  obtain ⟨ρ', a', w', h1, h2, h3, h4, h5⟩ := h b cs ρ a w ht hm hB
  exact ⟨ρ', a', w', h1, h2.up hn, h3, h4.keep ns top hn, h5.kept ns top hn⟩
theorem from_head {f : Func} {ns : List Nat} {top : Nat} {todo todo' : List Item} {tm tm' : List AV} {m m' : MS} {B : Nat} (hE : ESound P E) (hD : DSound P D) (hC : cutsB B cuts = true) (h : from_ P E D f cuts ns top todo tm m = some (.head todo' tm' m' true)) : Goes P B ⟨todo, tm, m⟩ ⟨todo', tm', m'⟩ := by
  obtain ⟨o, bs, h0, _, h2⟩ := run_ok (B := B) hE hD hC _ _ _ _ _ _ h
  cases o with
  | ret tm1 m1 =>
    simp only [finA] at h0
    split at h0
    · split at h0 <;> cases h0
    · cases h0
  | head todo1 tm1 m1 =>
    simp only [finA, Option.some.injEq, Fin_.head.injEq] at h0
    obtain ⟨rfl, rfl, rfl, h3⟩ := h0
    exact h2 (conj_all h3)
  | left j1 tm1 m1 => cases h0
/-- From here the function hands this back. -/
def Gives_ (P : Program) (f : Func) (B : Nat) (s : St) (v : AV) (m' : MS) : Prop := ∀ (b : Frame) (cs : List Frame) (ρ : Rho) (a : Act) (w : World), b.roundOf = none → AV.rels ρ s.m.nx s.tm a.tmps.toList → MRel ρ s.m w → B ≤ s.m.nx →
  ∃ ρ' a' w' todo x, Steps P (lone (b.atR a s.todo) cs w) (lone { b.atR a' todo with mode := .returning } cs w') ∧ a'.defers = a.defers ∧ (results f a'.tmps).run P w' = .ok x w' ∧ AV.rel ρ' m'.nx v x ∧ MRel ρ' m' w' ∧ Moves B ρ ρ' s.m m' w w'
theorem Goes.gives {f : Func} {B : Nat} {s s' : St} {v : AV} {m' : MS} (h : Goes P B s s') (h' : Gives_ P f B s' v m') : Gives_ P f B s v m' := fun b cs ρ a w hro ht hm hB => by
  obtain ⟨ρ1, a1, w1, st1, ht1, hd1, hm1, mv1⟩ := h b cs ρ a w ht hm hB
  obtain ⟨ρ2, a2, w2, todo, x, st2, hd2, hx, hr, hm2, mv2⟩ := h' b cs ρ1 a1 w1 hro ht1 hm1 mv1.nx
  exact ⟨ρ2, a2, w2, todo, x, st1.trans st2, hd2.trans hd1, hx, hr, hm2, mv1.trans mv2⟩
theorem from_ret {f : Func} {ns : List Nat} {top : Nat} {todo : List Item} {tm : List AV} {m m' : MS} {v : AV} {B : Nat} (hE : ESound P E) (hD : DSound P D) (hC : cutsB B cuts = true) (h : from_ P E D f cuts ns top todo tm m = some (.ret v m' true)) : Gives_ P f B ⟨todo, tm, m⟩ v m' := by
  obtain ⟨o, bs, h0, _, h2⟩ := run_ok (B := B) hE hD hC _ _ _ _ _ _ h
  cases o with
  | ret tm1 m1 =>
    simp only [finA] at h0
    split at h0
    · rename_i hn
      have hn := Nat.le_of_ble_eq_true hn
      split at h0
      · rename_i v1 bs1 hr
        simp only [Option.some.injEq, Fin_.ret.injEq] at h0
        obtain ⟨rfl, rfl, h3⟩ := h0
        obtain ⟨b1, b2⟩ := all_app (conj_all h3)
        intro b cs ρ a w hro ht hm hB
        obtain ⟨ρ', a', w', todo', st, ht', hd', hm', mv⟩ := h2 b1 b cs ρ a w hro ht hm hB
        obtain ⟨x, hx1, hx2⟩ := resA_ok (P := P) hr ht' hm' b2
        exact ⟨ρ', a', w', todo', x, st, hd', hx1, hx2.up hn, hm'.keep ns top hn, mv.kept ns top hn⟩
      · cases h0
    · cases h0
  | head todo1 tm1 m1 => simp only [finA] at h0; cases h0
  | left j1 tm1 m1 => cases h0
theorem fsound {f g : FuncId} {fn : Func} {c : Code} {args : List AV} {m m' : MS} {v : AV} (hc : ∀ xs w, (callFunc f xs).run P w = .ok (.enter g xs) w) (hf : P.funcs[g]? = some fn) (hb : fn.body = some c) (h : Gives_ P fn m.nx (enterA fn c args m) v m') : FSound P f m args v m' := by
  intro ρ w xs hm hx
  refine .inl ⟨g, hc xs.toArray w, fun cs => ?_⟩
  let b : Frame := { (default : Frame) with fn := g, kind := .normal, roundOf := none }
  have hent : Frame.enter P g xs.toArray .normal = b.atR { tmps := xs.toArray ++ Array.replicate (fn.ntmps - xs.toArray.size) undef, defers := [] } [.code c] := by
    simp [Frame.enter, Frame.atR, hf, hb, b]
  have hrel : AV.rels ρ m.nx (args ++ List.replicate (fn.ntmps - args.length) .unk) (xs.toArray ++ Array.replicate (fn.ntmps - xs.toArray.size) undef).toList := by
    have e : (xs.toArray ++ Array.replicate (fn.ntmps - xs.toArray.size) undef).toList = xs ++ List.replicate (fn.ntmps - xs.length) undef := by simp
    rw [e]
    refine hx.append ?_
    have := AV.rels.unks (ρ := ρ) (nx := m.nx) (List.replicate (fn.ntmps - xs.length) undef)
    rw [List.length_replicate, ← hx.len] at this
    rw [← hx.len]
    exact this
  obtain ⟨ρ', a', w', todo, x, st, hd, hx1, hx2, hm', mv⟩ := h b cs ρ { tmps := xs.toArray ++ Array.replicate (fn.ntmps - xs.toArray.size) undef, defers := [] } w rfl hrel hm (Nat.le_refl _)
  refine ⟨.returned x, w', { b.atR a' todo with mode := .returning }, ⟨x, rfl, ρ', hx2, hm', mv⟩, ?_, rfl, rfl, hd, rfl, fn, hf, hx1⟩
  rw [hent]
  exact st
end
end Go.Proofs.Ytmjpikkloofakaa

namespace Go.Proofs.Ytmjpikkloofakaa
open Go Go.RowKit

/-- What an operation waits for, as bits: through all steps. -/
def maskStep (ms : List Nat) (s : Nat) (e : Edge) : Nat := match Region.binds .any e with
  | true => s ||| 1 <<< e.on ||| ms.getD e.on 0
  | false => s
def maskOf (ms : List Nat) (o : Oper) : Nat := o.after.toList.foldl (maskStep ms) 0
def masks : List Oper → List Nat → List Nat
  | [], acc => acc
  | o :: r, acc => masks r (acc ++ [maskOf acc o])
def bitOf (ms : List Nat) (i j : Nat) : Bool := (ms.getD i 0).testBit j
/-- What listed is closed under. -/
def ClosedL (ops : Array Oper) (listed : Array Bool) : Prop :=
  listed.size = ops.size ∧ ∀ j oj, ops[j]? = some oj → listed.getD j false = true → ∀ e ∈ oj.after, Region.binds .any e = true → listed.getD e.on false = true
theorem ClosedL.set_ {ops : Array Oper} {i : Nat} {listed : Array Bool} (inv : ClosedL ops listed) (hi : i ∈ Region.ready .any ops listed) : ClosedL ops (listed.setIfInBounds i true) := by
  obtain ⟨_, oi, hoi, hall⟩ := mem_ready.1 hi
  refine ⟨by simp [inv.1], fun j oj hj hl e he hb => ?_⟩
  by_cases hij : i = j
  · subst hij
    have : oj = oi := Option.some.inj (hj.symm.trans hoi)
    subst this
    exact getD_set_true (hall e he hb)
  · rw [getD_set_ne false hij] at hl
    exact getD_set_true (inv.2 j oj hj hl e he hb)
theorem maskOf_bit {ms : List Nat} {j : Nat} : ∀ (es : List Edge) (s : Nat), (es.foldl (maskStep ms) s).testBit j = true → s.testBit j = true ∨ ∃ e ∈ es, Region.binds .any e = true ∧ (j = e.on ∨ (ms.getD e.on 0).testBit j = true)
  | [], s, h => .inl h
  | e :: es, s, h => by
    simp only [List.foldl_cons] at h
    rcases maskOf_bit es _ h with h1 | ⟨e', he', h2⟩
    · unfold maskStep at h1
      split at h1
      · rename_i hb
        simp only [Nat.testBit_or, Bool.or_eq_true] at h1
        rcases h1 with (h1 | h1) | h1
        · exact .inl h1
        · refine .inr ⟨e, by simp, hb, .inl ?_⟩
          rw [Nat.one_shiftLeft, Nat.testBit_two_pow] at h1
          exact (of_decide_eq_true h1).symm
        · exact .inr ⟨e, by simp, hb, .inr h1⟩
      · exact .inl h1
    · exact .inr ⟨e', by simp [he'], h2⟩
/-- The masks are right for what is listed. -/
def MasksOk (ops : List Oper) (ms : List Nat) (listed : Array Bool) : Prop :=
  ∀ i o, ops[i]? = some o → i < ms.length → (∀ e ∈ o.after, Region.binds .any e = true → listed.getD e.on false = true) → ∀ j, (ms.getD i 0).testBit j = true → listed.getD j false = true
theorem masks_ok {listed : Array Bool} : ∀ (r pre : List Oper) (acc : List Nat), acc.length = pre.length → ClosedL (pre ++ r).toArray listed → MasksOk (pre ++ r) acc listed → MasksOk (pre ++ r) (masks r acc) listed ∧ (masks r acc).length = (pre ++ r).length
  | [], pre, acc, hl, hc, h => by simpa [masks, hl] using h
  | o :: r, pre, acc, hl, hc, h => by
    have e : pre ++ o :: r = (pre ++ [o]) ++ r := by simp
    have hstep : MasksOk (pre ++ o :: r) (acc ++ [maskOf acc o]) listed := fun i oi hi hlt hall j hj => by
      by_cases hia : i < acc.length
      · refine h i oi hi hia hall j ?_
        simpa [List.getD_eq_getElem?_getD, List.getElem?_append_left hia] using hj
      · have hie : i = acc.length := by simp at hlt; omega
        subst hie
        have ho : oi = o := by
          rw [hl] at hi
          simp at hi
          exact hi.symm
        subst ho
        have hj' : (maskOf acc oi).testBit j = true := by simpa [List.getD_eq_getElem?_getD] using hj
        rcases maskOf_bit _ _ hj' with h1 | ⟨e1, he1, hb1, h2⟩
        · simp at h1
        · have hon := hall e1 (by simpa using he1) hb1
          rcases h2 with rfl | h2
          · exact hon
          · have hlt2 : e1.on < acc.length := by
              rcases Nat.lt_or_ge e1.on acc.length with h' | h'
              · exact h'
              · simp [List.getElem?_eq_none h'] at h2
            have hoo : ∃ o2, (pre ++ oi :: r)[e1.on]? = some o2 := ⟨_, List.getElem?_eq_getElem (by simp; omega)⟩
            obtain ⟨o2, ho2⟩ := hoo
            exact h e1.on o2 ho2 hlt2 (fun e he hb => hc.2 e1.on o2 (by simpa using ho2) hon e he hb) j h2
    have := masks_ok r (pre ++ [o]) (acc ++ [maskOf acc o]) (by simp [hl]) (by rw [← e]; exact hc) (by rw [← e]; exact hstep)
    rw [e]
    exact this
theorem masks_listed {ops : Array Oper} {listed : Array Bool} (hc : ClosedL ops listed) : MasksOk ops.toList (masks ops.toList []) listed := by
  have := (masks_ok (listed := listed) ops.toList [] [] rfl (by simpa using hc) (fun i o _ h => by simp at h)).1
  simpa using this

/-- Operations for which memory is nothing. -/
def intB (P : Program) (d : TypeId) : Bool := match P.underlying d with
  | some (.int _) => true
  | _ => false
theorem convR_int {P : Program} {s d : TypeId} {m : MS} {a : AV} (h : intB P d = true) : convR P s d m a = match convA P s d a with
    | some v => some (v, none, [])
    | none => none := by
  unfold intB at h
  split at h
  · rename_i k e
    unfold convR
    cases hc : convA P s d a with
    | some v => rfl
    | none =>
      have h1 : convM P m s d a = none := by unfold convM; rw [e]; split <;> first | rfl | (rename_i h2; cases h2)
      have h2 : convN P m s d a = none := by unfold convN; rw [e]; split <;> first | rfl | (rename_i h2; cases h2)
      dsimp only
      rw [h1, h2]; rfl
  · cases h
def pureB (P : Program) (o : Oper) : Bool := match o.op with
  | .convert _ d _ => intB P d
  | .move _ => true
  | .assign _ => true
  | .pick .. => true
  | .build .. => true
  | .nilCheck _ => true
  | .binOp .. => true
  | .unOp .. => true
  | .fieldAddr .. => true
  | .field .. => true
  | .indexAddr .. => true
  | .index .. => true
  | .extract .. => true
  | .slice .. => true
  | _ => false
section
variable {P : Program} {E : Env} {ops : Array Oper}
theorem pure_core {o : Oper} {tm : List AV} {m : MS} (h : pureB P o = true) {ky : Key} {v : AV} {mo : Option MS} {bs : List Bool} (hc : coreA P E ky o tm m = some (v, mo, bs)) : mo = none := by
  obtain ⟨dst, op, ty, pos, after, guard⟩ := o
  unfold coreA at hc
  cases op <;> simp only [pureB, Bool.false_eq_true] at h <;> dsimp only [execA, pure1, pure2] at hc
  case convert =>
    rw [convR_int h] at hc
    split at hc
    · rename_i hx
      split at hx <;> cases hx
      cases hc
      rfl
    · cases hc
  all_goals (repeat' (split at hc))
  all_goals first
    | (cases hc; done)
    | (cases hc; rfl)
    | (rename_i he; cases hc; (repeat' (split at he)) <;> first | (cases he; done) | (cases he; rfl))
theorem pure_any {o : Oper} {tm : List AV} (h : pureB P o = true) (m m' : MS) : stepA P E ops o tm m = stepA P E ops o tm m' := by
  have : ∀ key, coreA P E key o tm m = coreA P E key o tm m' := fun key => by
    obtain ⟨dst, op, ty, pos, after, guard⟩ := o
    cases op <;> simp only [pureB, Bool.false_eq_true] at h
    case convert => simp only [coreA, execA, convR_int h]
    all_goals rfl
  unfold stepA
  cases guardA ops tm o.guard with
  | none => rfl
  | some q => cases q with
    | none => simp only [this]
    | some q =>
      obtain ⟨t, w, g⟩ := q
      simp only [this]
      cases hc : coreA P E (some (t, w)) o tm m' with
      | none => rfl
      | some q =>
        obtain ⟨v, mo, bs⟩ := q
        have := pure_core h hc
        subst this
        rfl
theorem pure_none {o : Oper} {tm : List AV} {m : MS} {v : AV} {mo : Option MS} {bs : List Bool} (h : pureB P o = true) (hs : stepA P E ops o tm m = some (v, mo, bs)) : mo = none := by
  unfold stepA at hs
  split at hs
  · cases hs
  · split at hs
    · rename_i h1
      split at hs
      · cases hs
      · cases hs; exact pure_core h h1
    · cases hs
  · split at hs
    · rename_i h1; cases hs; rfl
    · rename_i h1; have := pure_core h h1; cases this
    · split at hs
      · cases hs
      · cases hs; rfl
theorem map_congr_mem {α β : Type} {f g : α → β} : ∀ l : List α, (∀ x, x ∈ l → f x = g x) → l.map f = l.map g
  | [], _ => rfl
  | x :: l, h => by simp only [List.map_cons]; rw [h x (by simp), map_congr_mem l (fun y hy => h y (by simp [hy]))]
theorem execA_congr {o : Oper} {ev ev' : Operand → AV} {m : MS} (h : ∀ x, x ∈ o.op.operands → ev x = ev' x) : execA P E o ev m = execA P E o ev' m := by
  obtain ⟨dst, op, ty, pos, after, guard⟩ := o
  cases op <;> dsimp only [execA] <;> simp only [Op.operands] at h
  case call c =>
    have ha : c.args.toList.map ev = c.args.toList.map ev' := map_congr_mem _ fun x hx => h x (by simp [Call.operands]; exact .inr (by simpa using hx))
    rw [ha]
    cases hc : c.callee with
    | value f => dsimp only; rw [h f (by simp [Call.operands, hc])]
    | invoke r n => rfl
    | builtin b => rfl
  case build t ps =>
    have : (ps.toList.map fun p => (p.1, ev p.2)) = (ps.toList.map fun p => (p.1, ev' p.2)) := map_congr_mem _ fun p hp => by
      rw [h p.2 (by simp; exact ⟨p.1, by simpa using hp⟩)]
    rw [this]
  case buildSlice t n ps =>
    have : (ps.toList.map fun p => (p.1, ev p.2)) = (ps.toList.map fun p => (p.1, ev' p.2)) := map_congr_mem _ fun p hp => by
      rw [h p.2 (by simp; exact ⟨p.1, by simpa using hp⟩)]
    rw [this]
  case slice t x lo hi mx => cases lo <;> cases hi <;> cases mx <;> simp_all
  case makeFunc fn fs cs =>
    rw [map_congr_mem fs.toList (f := ev) (g := ev') (fun x hx => h x (by simp; exact .inl (by simpa using hx))), map_congr_mem cs.toList (f := ev) (g := ev') (fun x hx => h x (by simp; exact .inr (by simpa using hx)))]
  all_goals first
    | rfl
    | (simp_all; done)
theorem evA_congr {tm tm' : List AV} {x : Operand} (h : ∀ t, x = .tmp t → tm.getD t .unk = tm'.getD t .unk) : evA tm x = evA tm' x := by
  cases x with
  | tmp t => exact h t rfl
  | _ => rfl
theorem looks_op {o : Oper} {x : Operand} {t : Tmp} (hx : x ∈ o.op.operands) (ht : x = .tmp t) : t ∈ o.looksAt ops := by
  subst ht
  exact List.mem_append_left _ (List.mem_filterMap.2 ⟨.tmp t, by simpa using hx, rfl⟩)
theorem coreA_congr {key : Key} {o : Oper} {tm tm' : List AV} {m : MS} (h : ∀ t, t ∈ o.looksAt ops → tm.getD t .unk = tm'.getD t .unk) : coreA P E key o tm m = coreA P E key o tm' m := by
  have hev : ∀ x, x ∈ o.op.operands → evA tm x = evA tm' x := fun x hx => evA_congr fun t ht => h t (looks_op hx ht)
  unfold coreA
  split
  · rename_i c a b hop
    have hm : ∀ x, x = c ∨ x = a ∨ x = b → x ∈ o.op.operands := fun x hx => by rw [hop]; simp [Op.operands]; exact hx
    rw [hev c (hm c (.inl rfl)), hev a (hm a (.inr (.inl rfl))), hev b (hm b (.inr (.inr rfl)))]
  · rw [execA_congr (ev' := fun x => strip (evA tm' x)) (fun x hx => by rw [hev x hx])]
    have : (o.op.operands.toList.flatMap fun x => gdOf key (evA tm x)) = (o.op.operands.toList.flatMap fun x => gdOf key (evA tm' x)) := by
      have hh : ∀ l : List Operand, (∀ x, x ∈ l → evA tm x = evA tm' x) → (l.flatMap fun x => gdOf key (evA tm x)) = (l.flatMap fun x => gdOf key (evA tm' x)) := fun l => by
        induction l with
        | nil => intro _; rfl
        | cons x l ih => intro hl; simp only [List.flatMap_cons]; rw [hl x (by simp), ih (fun y hy => hl y (by simp [hy]))]
      exact hh _ fun x hx => hev x (by simpa using hx)
    rw [this]
theorem stepA_congr {o : Oper} {tm tm' : List AV} {m : MS} (h : ∀ t, t ∈ o.looksAt ops → tm.getD t .unk = tm'.getD t .unk) : stepA P E ops o tm m = stepA P E ops o tm' m := by
  have hg : guardA ops tm o.guard = guardA ops tm' o.guard := by
    unfold guardA
    cases hg : o.guard with
    | none => rfl
    | some p =>
      obtain ⟨j, want⟩ := p
      dsimp only
      cases hj : ops.toList[j]? with
      | none => rfl
      | some oj =>
        dsimp only
        cases hd : oj.dst with
        | none => rfl
        | some t =>
          dsimp only
          have : ops[j]? = some oj := by simpa using hj
          rw [h t (List.mem_append_right _ (by simp [hg, this, hd]))]
  unfold stepA
  rw [hg]
  simp only [coreA_congr h]
end
/-- What is in the variables behind those operations that 'sel' picks, of the first k. -/
def TS (d : Nat → Option Tmp) (v : Nat → AV) (tm : List AV) (sel : Nat → Bool) : Nat → List AV
  | 0 => tm
  | k + 1 => if sel k then putA (TS d v tm sel k) (d k) (v k) else TS d v tm sel k
def MSel (mo : Nat → Option MS) (m : MS) (sel : Nat → Bool) : Nat → MS
  | 0 => m
  | k + 1 => if sel k then (mo k).getD (MSel mo m sel k) else MSel mo m sel k
section
variable {d : Nat → Option Tmp} {v : Nat → AV} {mo : Nat → Option MS} {tm : List AV} {m : MS} {sel sel' : Nat → Bool}
theorem putA_len (tm : List AV) (d : Option Tmp) (v : AV) : (putA tm d v).length = tm.length := by cases d <;> simp [putA]
theorem TS_len : ∀ k, (TS d v tm sel k).length = tm.length
  | 0 => rfl
  | k + 1 => by
    simp only [TS]
    split
    · rw [putA_len, TS_len k]
    · exact TS_len k
theorem putA_getD (tm : List AV) (d : Option Tmp) (v : AV) (t : Tmp) : (putA tm d v).getD t .unk = if d = some t ∧ t < tm.length then v else tm.getD t .unk := by
  cases d with
  | none => simp [putA]
  | some d =>
    simp only [putA, List.getD_eq_getElem?_getD]
    by_cases h : d = t
    · subst h
      by_cases hl : d < tm.length
      · simp [hl]
      · simp [hl]
    · rw [List.getElem?_set_ne h, if_neg (by simp [h])]
theorem TS_same {t : Tmp} : ∀ k, (∀ j, j < k → d j = some t → sel j = sel' j) → (TS d v tm sel k).getD t .unk = (TS d v tm sel' k).getD t .unk
  | 0, _ => rfl
  | k + 1, h => by
    have ih := TS_same k fun j hj => h j (by omega)
    have hl := TS_len (d := d) (v := v) (tm := tm) (sel := sel) k
    have hl' := TS_len (d := d) (v := v) (tm := tm) (sel := sel') k
    simp only [TS]
    by_cases hd : d k = some t
    · rw [h k (by omega) hd]
      split
      · rw [putA_getD, putA_getD, hl, hl', ih]
      · exact ih
    · have e : ∀ s : Nat → Bool, (if s k then putA (TS d v tm s k) (d k) (v k) else TS d v tm s k).getD t .unk = (TS d v tm s k).getD t .unk := fun s => by
        split
        · rw [putA_getD, if_neg (fun h => hd h.1)]
        · rfl
      rw [e, e, ih]
theorem TS_last {t : Tmp} {i : Nat} (hs : sel i = true) (hd : d i = some t) : ∀ k, i < k → (∀ j, i < j → j < k → d j = some t → sel j = false) → (TS d v tm sel k).getD t .unk = if t < tm.length then v i else AV.unk
  | 0, h, _ => by omega
  | k + 1, h, hj => by
    simp only [TS]
    by_cases hik : i = k
    · subst hik
      rw [if_pos hs, putA_getD, TS_len]
      by_cases hl : t < tm.length
      · simp [hd, hl]
      · rw [if_neg (fun h => hl h.2), if_neg hl]
        have hle : (TS d v tm sel i).length ≤ t := by rw [TS_len]; exact Nat.le_of_not_lt hl
        simp [List.getD_eq_getElem?_getD, List.getElem?_eq_none hle]
    · have ih := TS_last (t := t) hs hd k (by omega) fun j h1 h2 => hj j h1 (by omega)
      split
      · rename_i hsk
        have hne : d k ≠ some t := fun e => by have := hj k (by omega) (by omega) e; rw [this] at hsk; cases hsk
        rw [putA_getD, if_neg (fun h => hne h.1), ih]
      · exact ih
theorem MSel_same : ∀ k, (∀ j, j < k → (mo j).isSome = true → sel j = sel' j) → MSel mo m sel k = MSel mo m sel' k
  | 0, _ => rfl
  | k + 1, h => by
    have ih := MSel_same k fun j hj => h j (by omega)
    simp only [MSel]
    cases hm : mo k with
    | none => simp [ih]
    | some m' =>
      rw [h k (by omega) (by simp [hm]), ih]
theorem MSel_last {i : Nat} {m' : MS} (hs : sel i = true) (hm : mo i = some m') : ∀ k, i < k → (∀ j, i < j → j < k → (mo j).isSome = true → sel j = false) → MSel mo m sel k = m'
  | 0, h, _ => by omega
  | k + 1, h, hj => by
    simp only [MSel]
    by_cases hik : i = k
    · subst hik
      rw [if_pos hs, hm]; rfl
    · have ih := MSel_last hs hm k (by omega) fun j h1 h2 => hj j h1 (by omega)
      split
      · rename_i hsk
        cases hmk : mo k with
        | none => simpa using ih
        | some m2 =>
          have := hj k (by omega) (by omega) (by simp [hmk])
          rw [this] at hsk; cases hsk
      · exact ih
theorem ext_getD {l l' : List AV} (hl : l.length = l'.length) (h : ∀ t, l.getD t .unk = l'.getD t .unk) : l = l' := by
  apply List.ext_getElem hl
  intro i h1 h2
  have := h i
  simpa [List.getD_eq_getElem?_getD, h1, h2] using this
end
end Go.Proofs.Ytmjpikkloofakaa

namespace Go.Proofs.Ytmjpikkloofakaa
open Go Go.RowKit

abbrev Tr := AV × Option MS × List Bool
def traceA (P : Program) (E : Env) (ops : Array Oper) : List Oper → List AV → MS → Option (List Tr)
  | [], _, _ => some []
  | o :: r, tm, m => match stepA P E ops o tm m with
    | some (v, mo, bs) => match traceA P E ops r (putA tm o.dst v) (orM mo m) with
      | some t => some ((v, mo, bs) :: t)
      | none => none
    | none => none
def effB : Tr → Bool
  | (_, some _, _) => true
  | _ => false
/-- Two operations that may come in either order. -/
def compat (P : Program) (ops : Array Oper) (x y : Oper) (ex ey : Bool) : Bool :=
  Oper.apart ops x y && (!(ex && !pureB P y) && !(ey && !pureB P x))
def pairsOk (P : Program) (ops : Array Oper) (ms : List Nat) (l : List (Oper × Bool)) : Bool :=
  (List.range l.length).all fun j => (List.range j).all fun i => bitOf ms j i || (match l[i]?, l[j]? with
    | some x, some y => compat P ops x.1 y.1 x.2 y.2
    | _, _ => false)
def edgesOk (l : List Oper) : Bool := (List.range l.length).all fun i => match l[i]? with
  | some o => o.after.toList.all fun e => !Region.binds .any e || decide (e.on < i)
  | none => false
/-- A guard is ahead in every order. -/
def guardsAhead (ms : List Nat) (l : List Oper) : Bool := (List.range l.length).all fun k => match l[k]? with
  | some o => match o.guard with
    | some (j, _) => bitOf ms k j
    | none => true
  | none => true
def finTr (ops : List Oper) (ts : List Tr) (tm : List AV) (m : MS) : List AV × MS × List Bool := match ops, ts with
  | o :: r, (v, mo, bs) :: t => match finTr r t (putA tm o.dst v) (orM mo m) with
    | (tm', m', bs') => (tm', m', bs ++ bs')
  | _, _ => (tm, m, [])
def drawA (P : Program) (E : Env) (ops : Array Oper) (tm : List AV) (m : MS) : Option (List AV × MS × List Bool) := match traceA P E ops ops.toList tm m with
  | some ts => match Region.noSelect ops && (edgesOk ops.toList && (guardsOk ops.toList && (guardsAhead (masks ops.toList []) ops.toList && pairsOk P ops (masks ops.toList []) (ops.toList.zip (ts.map effB))))) with
    | true => some (finTr ops.toList ts tm m)
    | false => none
  | none => none
/-- The order is open, as the program's text says. -/
def MixedOk (P : Program) : Prop := P.follows .mixedOrders = true
theorem count_set : ∀ (l : List Bool) (i : Nat), l[i]? = some false → (l.set i true).count false + 1 = l.count false
  | [], i, h => by simp at h
  | b :: l, 0, h => by simp at h; subst h; simp
  | b :: l, i + 1, h => by
    simp at h
    have := count_set l i h
    simp only [List.set_cons_succ, List.count_cons]
    omega
section
variable {P : Program} {E : Env} {ops : Array Oper}
/-- The numbers of a trace. -/
def dOf (ops : Array Oper) (i : Nat) : Option Tmp := (ops.toList[i]?).bind (·.dst)
def vOf (ts : List Tr) (i : Nat) : AV := (ts.getD i (.unk, none, [])).1
def moOf (ts : List Tr) (i : Nat) : Option MS := (ts.getD i (.unk, none, [])).2.1
theorem trace_ok : ∀ (r pre : List Oper) (tp : List Tr) (tm0 tm : List AV) (m0 m : MS) (ts : List Tr), pre ++ r = ops.toList → tp.length = pre.length →
    tm = TS (dOf ops) (vOf (tp ++ ts)) tm0 (fun _ => true) pre.length → m = MSel (moOf (tp ++ ts)) m0 (fun _ => true) pre.length →
    traceA P E ops r tm m = some ts →
    ts.length = r.length ∧ (finTr r ts tm m).1 = TS (dOf ops) (vOf (tp ++ ts)) tm0 (fun _ => true) ops.toList.length ∧ (finTr r ts tm m).2.1 = MSel (moOf (tp ++ ts)) m0 (fun _ => true) ops.toList.length ∧
    ∀ i o, pre.length ≤ i → ops.toList[i]? = some o → ∃ bs, stepA P E ops o (TS (dOf ops) (vOf (tp ++ ts)) tm0 (fun _ => true) i) (MSel (moOf (tp ++ ts)) m0 (fun _ => true) i) = some (vOf (tp ++ ts) i, moOf (tp ++ ts) i, bs) ∧ ∀ b ∈ bs, b ∈ (finTr r ts tm m).2.2
  | [], pre, tp, tm0, tm, m0, m, ts, hp, hl, ht, hm, h => by
    cases h
    have e : ops.toList.length = pre.length := by rw [← hp]; simp
    refine ⟨rfl, ?_, ?_, fun i o hi ho => ?_⟩
    · rw [e, ← ht]; rfl
    · rw [e, ← hm]; rfl
    · have := (List.getElem?_eq_some_iff.1 ho).1
      omega
  | o :: r, pre, tp, tm0, tm, m0, m, ts, hp, hl, ht, hm, h => by
    simp only [traceA] at h
    cases hs : stepA P E ops o tm m with
    | none => rw [hs] at h; cases h
    | some q =>
      obtain ⟨v, mo, bs⟩ := q
      rw [hs] at h
      dsimp only at h
      rw [getD_match] at h
      cases hr : traceA P E ops r (putA tm o.dst v) (mo.getD m) with
      | none => rw [hr] at h; cases h
      | some t =>
        rw [hr] at h
        cases h
        have ho : ops.toList[pre.length]? = some o := by rw [← hp]; simp
        have hd : dOf ops pre.length = o.dst := by unfold dOf; rw [ho]; rfl
        have hv : vOf (tp ++ (v, mo, bs) :: t) pre.length = v := by unfold vOf; rw [← hl]; simp
        have hmo : moOf (tp ++ (v, mo, bs) :: t) pre.length = mo := by unfold moOf; rw [← hl]; simp
        have e : tp ++ (v, mo, bs) :: t = (tp ++ [(v, mo, bs)]) ++ t := by simp
        have ht' : putA tm o.dst v = TS (dOf ops) (vOf (tp ++ (v, mo, bs) :: t)) tm0 (fun _ => true) (pre ++ [o]).length := by
          simp only [List.length_append, List.length_singleton, TS, if_true, hd, hv, ← ht]
        have hm' : mo.getD m = MSel (moOf (tp ++ (v, mo, bs) :: t)) m0 (fun _ => true) (pre ++ [o]).length := by
          simp only [List.length_append, List.length_singleton, MSel, if_true, hmo, ← hm]
        obtain ⟨g1, g2, g3, g4⟩ := trace_ok r (pre ++ [o]) (tp ++ [(v, mo, bs)]) tm0 _ m0 _ t (by rw [← hp]; simp) (by simp [hl]) (by rw [← e]; exact ht') (by rw [← e]; exact hm') hr
        rw [← e] at g2 g3 g4
        refine ⟨by simp [g1], ?_, ?_, fun i oi hi hoi => ?_⟩
        · rw [← g2]; simp only [finTr, getD_match]
        · rw [← g3]; simp only [finTr, getD_match]
        · by_cases hip : i = pre.length
          · subst hip
            rw [ho] at hoi
            cases hoi
            refine ⟨bs, ?_, fun b hb => by simp only [finTr]; simp [hb]⟩
            rw [← ht, ← hm, hv, hmo]
            exact hs
          · obtain ⟨bs', h1, h2⟩ := g4 i oi (by simp; omega) hoi
            refine ⟨bs', h1, fun b hb => ?_⟩
            have := h2 b hb
            simp only [finTr, getD_match]
            simp [this]
theorem apart_looks {x y : Oper} (h : Oper.apart ops x y = true) : (∀ d, x.dst = some d → d ∉ y.looksAt ops) ∧ (∀ d, x.dst = some d → y.dst ≠ some d) ∧ (∀ d, y.dst = some d → d ∉ x.looksAt ops) := Oper.apart_spec h
theorem drawA_ok (hE : ESound P E) (hm : MixedOk P) : DSound P (drawA P E) := by
  intro rid ops tm m tm' m' bs h hbs B ρ a w Q ht hnogd hmr hB k
  unfold drawA at h
  cases htr : traceA P E ops ops.toList tm m with
  | none => rw [htr] at h; cases h
  | some ts =>
    rw [htr] at h
    dsimp only at h
    split at h
    · rename_i hck
      simp only [Bool.and_eq_true] at hck
      obtain ⟨_, hedge, hgok, hgah, hpair⟩ := hck
      obtain ⟨hlen, hfin1, hfin2, hall⟩ := trace_ok (P := P) (E := E) (ops := ops) ops.toList [] [] tm tm m m ts rfl rfl rfl rfl htr
      simp only [List.nil_append, List.length_nil] at hfin1 hfin2 hall
      generalize hD : dOf ops = d at hfin1 hfin2 hall
      generalize hV : vOf ts = v at hfin1 hfin2 hall
      generalize hMo : moOf ts = mo at hfin1 hfin2 hall
      have hn : ops.toList.length = ops.size := by simp
      rw [hn] at hfin1 hfin2
      simp only [Option.some.injEq] at h
      have e1 : tm' = TS d v tm (fun _ => true) ops.size := by rw [← hfin1, h]
      have e2 : m' = MSel mo m (fun _ => true) ops.size := by rw [← hfin2, h]
      have e3 : (finTr ops.toList ts tm m).2.2 = bs := by rw [h]
      -- the checks, by number
      have hpr : ∀ i j oi oj, i < j → ops[i]? = some oi → ops[j]? = some oj → bitOf (masks ops.toList []) j i = false → Oper.apart ops oi oj = true ∧ ¬ ((mo i).isSome = true ∧ pureB P oj = false) ∧ ¬ ((mo j).isSome = true ∧ pureB P oi = false) := fun i j oi oj hij hi hj hb => by
        have hjs : j < ops.size := (Array.getElem?_eq_some_iff.1 hj).1
        have his : i < ops.size := by omega
        have hti : ∃ x, ts[i]? = some x := ⟨_, List.getElem?_eq_getElem (by rw [hlen]; simpa using his)⟩
        have htj : ∃ x, ts[j]? = some x := ⟨_, List.getElem?_eq_getElem (by rw [hlen]; simpa using hjs)⟩
        obtain ⟨xi, hxi⟩ := hti
        obtain ⟨xj, hxj⟩ := htj
        have hz : ∀ n o x, ops[n]? = some o → ts[n]? = some x → (ops.toList.zip (ts.map effB))[n]? = some (o, effB x) := fun n o x ho hx => by
          rw [List.getElem?_zip_eq_some]
          exact ⟨by simpa using ho, by rw [List.getElem?_map, hx]; rfl⟩
        have hef : ∀ n x, ts[n]? = some x → effB x = (mo n).isSome := fun n x hx => by
          rw [← hMo]
          unfold moOf
          rw [List.getD_eq_getElem?_getD, hx]
          obtain ⟨a, b, c⟩ := x
          cases b <;> rfl
        unfold pairsOk at hpair
        have hzl : (ops.toList.zip (ts.map effB)).length = ops.size := by simp [hlen]
        have h1 := List.all_eq_true.1 hpair j (List.mem_range.2 (by rw [hzl]; exact hjs))
        have h2 := List.all_eq_true.1 h1 i (List.mem_range.2 hij)
        rw [hb, Bool.false_or, hz i oi xi hi hxi, hz j oj xj hj hxj] at h2
        simp only [compat, Bool.and_eq_true, Bool.not_eq_true', Bool.and_eq_false_iff, hef i xi hxi, hef j xj hxj] at h2
        refine ⟨h2.1, fun hh => ?_, fun hh => ?_⟩
        · rcases h2.2.1 with h3 | h3
          · rw [hh.1] at h3; cases h3
          · simp [hh.2] at h3
        · rcases h2.2.2 with h3 | h3
          · rw [hh.1] at h3; cases h3
          · simp [hh.2] at h3
      have hdo : ∀ i o, ops[i]? = some o → d i = o.dst := fun i o ho => by
        rw [← hD]; unfold dOf
        have : ops.toList[i]? = some o := by simpa using ho
        rw [this]; rfl
      have hdn : ∀ i t, d i = some t → ∃ o, ops[i]? = some o ∧ o.dst = some t := fun i t hi => by
        rw [← hD] at hi; unfold dOf at hi
        cases ho : ops.toList[i]? with
        | none => rw [ho] at hi; cases hi
        | some o => rw [ho] at hi; exact ⟨o, by simpa using ho, hi⟩
      have hmn : ∀ i, (mo i).isSome = true → ∃ o, ops[i]? = some o ∧ pureB P o = false := fun i hi => by
        have his : i < ts.length := by
          rcases Nat.lt_or_ge i ts.length with h' | h'
          · exact h'
          · rw [← hMo] at hi; unfold moOf at hi; simp [List.getElem?_eq_none h'] at hi
        have hlt : i < ops.toList.length := by rw [← hlen]; exact his
        have ho : ops.toList[i]? = some ops.toList[i] := List.getElem?_eq_getElem hlt
        refine ⟨ops.toList[i], by simp, ?_⟩
        obtain ⟨bs1, hs1, _⟩ := hall i _ (Nat.zero_le _) ho
        cases hp : pureB P ops.toList[i] with
        | false => rfl
        | true => rw [pure_none hp hs1] at hi; cases hi
      intro rnd fu
      refine wpIn_region_any hm ?_
      -- any order
      have key : ∀ (f : Nat) (listed : Array Bool) (a1 : Act) (w1 : World), ClosedL ops listed → listed.toList.count false = f →
          GI (TS d v tm (fun i => listed.getD i false) ops.size) a1 → Whence ops (fun k => listed.getD k false = true) (TS d v tm (fun i => listed.getD i false) ops.size) →
          (∃ ρ1, AV.rels ρ1 (MSel mo m (fun i => listed.getD i false) ops.size).nx (TS d v tm (fun i => listed.getD i false) ops.size) a1.tmps.toList ∧ a1.defers = a.defers ∧ MRel ρ1 (MSel mo m (fun i => listed.getD i false) ops.size) w1 ∧ Moves B ρ ρ1 m (MSel mo m (fun i => listed.getD i false) ops.size) w w1) →
          wpAnyIn (FW rnd) fu P .any ops Q f listed a1 w1 := by
        intro f
        induction f with
        | zero =>
          intro listed a1 w1 hc hcnt _ _ ⟨ρ1, g1, g2, g3, g4⟩
          have hal : ∀ i, i < ops.size → listed.getD i false = true := fun i hi => by
            cases hg : listed.getD i false with
            | true => rfl
            | false =>
              have hil : i < listed.size := by rw [hc.1]; exact hi
              have : false ∈ listed.toList := by
                simp [hil] at hg
                rw [← hg]
                exact List.mem_of_getElem? (i := i) (by simp [hil])
              have := List.count_pos_iff.2 this
              omega
          have es : TS d v tm (fun i => listed.getD i false) ops.size = tm' := by
            rw [e1]
            exact ext_getD (by rw [TS_len, TS_len]) fun t => TS_same _ fun j hj _ => hal j hj
          have em : MSel mo m (fun i => listed.getD i false) ops.size = m' := by
            rw [e2]
            exact MSel_same _ fun j hj _ => hal j hj
          rw [es, em] at g1
          rw [em] at g3 g4
          refine ⟨?_, k ρ1 a1 w1 g1 g2 g3 g4⟩
          unfold Region.ready
          rw [List.filter_eq_nil_iff]
          intro i hi
          have hil : i < listed.size := by rw [hc.1]; exact List.mem_range.1 hi
          have := hal i (List.mem_range.1 hi)
          simp [hil] at this
          simp [hil, this]
        | succ f ih =>
          intro listed a1 w1 hc hcnt hGI hWh ⟨ρ1, g1, g2, g3, g4⟩
          refine ⟨fun hnil => ?_, fun i hi => ?_⟩
          · -- something waits for nothing
            exfalso
            have hne : false ∈ listed.toList := List.count_pos_iff.1 (by omega)
            have hex : ∃ i, i < ops.size ∧ listed.getD i false = false := by
              obtain ⟨i, hi, hv⟩ := List.getElem_of_mem hne
              refine ⟨i, by rw [← hc.1]; simpa using hi, ?_⟩
              have : i < listed.size := by simpa using hi
              simp [this]
              simpa using hv
            have hmin : ∀ n, ∀ i, i < n → i < ops.size → listed.getD i false = false → False := by
              intro n
              induction n with
              | zero => intro i hi; omega
              | succ n ihn =>
                intro i hin his hif
                have ho : ops[i]? = some ops[i] := Array.getElem?_eq_getElem his
                have hil : i < listed.size := by rw [hc.1]; exact his
                have : i ∈ Region.ready .any ops listed := by
                  rw [mem_ready]
                  refine ⟨by simp [hil] at hif ⊢; exact hif, ops[i], ho, fun e he hb => ?_⟩
                  have hee : e.on < i := by
                    have h1 := List.all_eq_true.1 hedge i (List.mem_range.2 (by simpa using his))
                    have ho' : ops.toList[i]? = some ops[i] := by simp
                    rw [ho'] at h1
                    have h2 := List.all_eq_true.1 h1 e (by simpa using he)
                    rw [hb] at h2
                    simpa using h2
                  cases hl : listed.getD e.on false with
                  | true => rfl
                  | false => exact (ihn e.on (by omega) (by omega) hl).elim
                rw [hnil] at this
                cases this
            obtain ⟨i, hi1, hi2⟩ := hex
            exact hmin (i + 1) i (by omega) hi1 hi2
          · have hi0 := hi
            obtain ⟨hiun, oi, hoi, hdep⟩ := mem_ready.1 hi0
            have his : i < ops.size := (Array.getElem?_eq_some_iff.1 hoi).1
            have hoi' : ops.toList[i]? = some oi := by simpa using hoi
            have hil : i < listed.size := by rw [hc.1]; exact his
            have hif : listed.getD i false = false := by simp [hil] at hiun ⊢; exact hiun
            obtain ⟨bsi, hstep, hbsi⟩ := hall i oi (Nat.zero_le _) hoi'
            have hmk := masks_listed hc
            have hml : (masks ops.toList []).length = ops.size := by
              have := (masks_ok (listed := listed) ops.toList [] [] rfl (by simpa using hc) (fun i o _ h => by simp at h)).2
              simpa using this
            have before : ∀ j, bitOf (masks ops.toList []) i j = true → listed.getD j false = true := fun j hj => hmk i oi hoi' (by rw [hml]; exact his) hdep j hj
            have behind : ∀ j oj, ops[j]? = some oj → bitOf (masks ops.toList []) j i = true → listed.getD j false = false := fun j oj hoj hj => by
              cases hl : listed.getD j false with
              | false => rfl
              | true =>
                have := hmk j oj (by simpa using hoj) (by rw [hml]; exact (Array.getElem?_eq_some_iff.1 hoj).1) (fun e he hb => hc.2 j oj hoj hl e he hb) i hj
                rw [hif] at this
                cases this
            -- the variables that this one looks at
            have hsame : ∀ t, t ∈ oi.looksAt ops → (TS d v tm (fun i => listed.getD i false) ops.size).getD t .unk = (TS d v tm (fun _ => true) i).getD t .unk := fun t ht => by
              have hcut : ∀ n, i ≤ n → (TS d v tm (fun j => decide (j < i)) n).getD t .unk = (TS d v tm (fun _ => true) i).getD t .unk := by
                intro n hn
                induction n with
                | zero => have : i = 0 := by omega
                          subst this; rfl
                | succ n ihn =>
                  by_cases hin : i = n + 1
                  · subst hin
                    exact TS_same _ fun j hj _ => by simpa using hj
                  · have := ihn (by omega)
                    rw [← this]
                    simp only [TS]
                    rw [if_neg (by simp; omega)]
              rw [← hcut ops.size (by omega)]
              refine TS_same _ fun j hj hdj => ?_
              obtain ⟨oj, hoj, hdj'⟩ := hdn j t hdj
              by_cases hji : j = i
              · subst hji; rw [hif]; simp
              · rcases Nat.lt_or_ge j i with hlt | hge
                · cases hb : bitOf (masks ops.toList []) i j with
                  | true => rw [before j hb]; simp [hlt]
                  | false => exact absurd ht ((apart_looks (hpr j i oj oi hlt hoj hoi hb).1).1 t hdj')
                · have hgt : i < j := by omega
                  cases hb : bitOf (masks ops.toList []) j i with
                  | true => rw [behind j oj hoj hb]; simp; omega
                  | false => exact absurd ht ((apart_looks (hpr i j oi oj hgt hoi hoj hb).1).2.2 t hdj')
            have hmem : pureB P oi = false → MSel mo m (fun i => listed.getD i false) ops.size = MSel mo m (fun _ => true) i := fun hp => by
              have hcut : ∀ n, i ≤ n → MSel mo m (fun j => decide (j < i)) n = MSel mo m (fun _ => true) i := by
                intro n hn
                induction n with
                | zero => have : i = 0 := by omega
                          subst this; rfl
                | succ n ihn =>
                  by_cases hin : i = n + 1
                  · subst hin
                    exact MSel_same _ fun j hj _ => by simpa using hj
                  · have := ihn (by omega)
                    rw [← this]
                    simp only [MSel]
                    rw [if_neg (by simp; omega)]
              rw [← hcut ops.size (by omega)]
              refine MSel_same _ fun j hj hmj => ?_
              obtain ⟨oj, hoj, _⟩ := hmn j hmj
              by_cases hji : j = i
              · subst hji; rw [hif]; simp
              · rcases Nat.lt_or_ge j i with hlt | hge
                · cases hb : bitOf (masks ops.toList []) i j with
                  | true => rw [before j hb]; simp [hlt]
                  | false => exact absurd ⟨hmj, hp⟩ (hpr j i oj oi hlt hoj hoi hb).2.1
                · have hgt : i < j := by omega
                  cases hb : bitOf (masks ops.toList []) j i with
                  | true => rw [behind j oj hoj hb]; simp; omega
                  | false => exact absurd ⟨hmj, hp⟩ (hpr i j oi oj hgt hoi hoj hb).2.2
            have hst : stepA P E ops oi (TS d v tm (fun i => listed.getD i false) ops.size) (MSel mo m (fun i => listed.getD i false) ops.size) = some (v i, mo i, bsi) := by
              rw [stepA_congr hsame]
              cases hp : pureB P oi with
              | true => rw [pure_any hp _ (MSel mo m (fun _ => true) i)]; exact hstep
              | false => rw [hmem hp]; exact hstep
            have hbsi' : bsi.all id = true := by
              rw [List.all_eq_true] at hbs ⊢
              intro b hb
              refine hbs b ?_
              rw [← e3]
              exact hbsi b hb
            -- what is there behind it
            have hset : ∀ j, (listed.setIfInBounds i true).getD j false = if j = i then true else listed.getD j false := fun j => by
              by_cases hji : j = i
              · subst hji; simp [hil]
              · rw [getD_set_ne false (Ne.symm hji), if_neg hji]
            have hTS : TS d v tm (fun j => (listed.setIfInBounds i true).getD j false) ops.size = putA (TS d v tm (fun j => listed.getD j false) ops.size) oi.dst (v i) := by
              refine ext_getD (by rw [TS_len, putA_len, TS_len]) fun t => ?_
              rw [putA_getD, TS_len]
              by_cases hdt : oi.dst = some t
              · rw [TS_last (i := i) (by rw [hset]; simp) (by rw [hdo i oi hoi]; exact hdt) ops.size his (fun j hij hj hdj => ?_)]
                · by_cases hl : t < tm.length
                  · rw [if_pos hl, if_pos ⟨hdt, hl⟩]
                  · rw [if_neg hl, if_neg (fun h => hl h.2)]
                    have hle : (TS d v tm (fun j => listed.getD j false) ops.size).length ≤ t := by rw [TS_len]; exact Nat.le_of_not_lt hl
                    rw [List.getD_eq_getElem?_getD, List.getElem?_eq_none hle]; rfl
                · rw [hset, if_neg (by omega)]
                  obtain ⟨oj, hoj, hdj'⟩ := hdn j t hdj
                  cases hb : bitOf (masks ops.toList []) j i with
                  | true => exact behind j oj hoj hb
                  | false => exact absurd hdj' ((apart_looks (hpr i j oi oj hij hoi hoj hb).1).2.1 t hdt)
              · rw [if_neg (fun h => hdt h.1)]
                refine TS_same _ fun j hj hdj => ?_
                rw [hset, if_neg]
                intro e
                subst e
                rw [hdo j oi hoi] at hdj
                exact hdt hdj
            have hMS : MSel mo m (fun j => (listed.setIfInBounds i true).getD j false) ops.size = (mo i).getD (MSel mo m (fun j => listed.getD j false) ops.size) := by
              cases hmi : mo i with
              | none =>
                refine MSel_same _ fun j hj hmj => ?_
                rw [hset, if_neg]
                intro e
                subst e
                rw [hmi] at hmj
                cases hmj
              | some m2 =>
                refine MSel_last (i := i) (by rw [hset]; simp) hmi ops.size his fun j hij hj hmj => ?_
                rw [hset, if_neg (by omega)]
                obtain ⟨oj, hoj, hpj⟩ := hmn j hmj
                cases hb : bitOf (masks ops.toList []) j i with
                | true => exact behind j oj hoj hb
                | false => exact absurd ⟨by rw [hmi]; rfl, hpj⟩ (hpr i j oi oj hij hoi hoj hb).2.1
            have hB1 : B ≤ (MSel mo m (fun i => listed.getD i false) ops.size).nx := g4.nx
            refine stepA_ok hE hoi hst g1 hGI g3 hbsi' (fun hvi ρ2 w2 x hx hm2 hmv => ?_) rnd fu
            obtain ⟨n1, n2⟩ := hGI.put (x := x) hWh hgok hoi (fun k' o' j w' hk' ho1 hg1 hj => by
              have hk1 : ops.toList[k']? = some o' := by simpa using ho1
              have h1 := List.all_eq_true.1 hgah k' (List.mem_range.2 (List.getElem?_eq_some_iff.1 hk1).1)
              rw [hk1] at h1
              dsimp only at h1
              rw [hg1] at h1
              dsimp only at h1
              have h2 := hmk k' o' hk1 (by rw [hml]; exact (Array.getElem?_eq_some_iff.1 ho1).1) (fun e he hb => hc.2 k' o' ho1 hk' e he hb) j h1
              rw [hj, hif] at h2
              cases h2) hvi
            refine ih _ _ _ (hc.set_ hi0) ?_ (by rw [hTS]; exact n1) (by
              rw [hTS]
              intro i1 t w g u hi1
              obtain ⟨k', o', j, w', oj, hdn, hrest⟩ := n2 i1 t w g u hi1
              refine ⟨k', o', j, w', oj, ?_, hrest⟩
              show (listed.setIfInBounds i true).getD k' false = true
              rw [hset]
              split
              · rfl
              · rename_i hne
                exact hdn.resolve_right hne) ⟨ρ2, ?_, ?_, ?_, ?_⟩
            · have := count_set listed.toList i (by
                have : listed[i]? = some false := by simp [hil] at hif ⊢; exact hif
                simpa using this)
              simp only [Array.toList_setIfInBounds]
              omega
            · rw [hTS, hMS]
              exact putA_ok (AV.rels.ext hmv.ext hmv.nx _ _ g1) hx
            · rw [← g2]; cases oi.dst <;> rfl
            · rw [hMS]; exact hm2
            · rw [hMS]; exact g4.trans (hmv.base hB1)
      have z0 : ∀ i, (Array.replicate ops.size false).getD i false = false := fun i => getD_replicate_false _ i
      have z1 : TS d v tm (fun i => (Array.replicate ops.size false).getD i false) ops.size = tm := by
        have : ∀ n, TS d v tm (fun i => (Array.replicate ops.size false).getD i false) n = tm := by
          intro n
          induction n with
          | zero => rfl
          | succ n ih => simp only [TS]; rw [if_neg (by rw [z0]; exact Bool.false_ne_true), ih]
        exact this _
      have z2 : MSel mo m (fun i => (Array.replicate ops.size false).getD i false) ops.size = m := by
        have : ∀ n, MSel mo m (fun i => (Array.replicate ops.size false).getD i false) n = m := by
          intro n
          induction n with
          | zero => rfl
          | succ n ih => simp only [MSel]; rw [if_neg (by rw [z0]; exact Bool.false_ne_true), ih]
        exact this _
      refine key ops.size _ _ _ ⟨by simp, fun j oj _ hl => by rw [z0] at hl; cases hl⟩ (by simp) (by rw [z1]; exact fun i t w g u hi => absurd hi (hnogd i t w g u)) (by rw [z1]; exact fun i t w g u hi => absurd hi (hnogd i t w g u)) ⟨ρ, ?_, rfl, ?_, ?_⟩
      · rw [z1, z2]; exact ht
      · rw [z2]; exact hmr.drew
      · rw [z2]; exact Moves.drew hB
    · cases h
end
end Go.Proofs.Ytmjpikkloofakaa
