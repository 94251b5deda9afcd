/-
  Numbers of 128 bits: adding, taking away, many times, held against each other: both ways are one.
-/
import Derived.IntWalk
import Derived.Test.YtanfjgkohhlcoaaWC
namespace Go.Proofs.Ytanfjgkohhlcoaa
open Go Go.RowKit
/-- The number of two halves. -/
def wv (h l : Int) : Int := h * 18446744073709551616 + l
def isU (x : Int) : Prop := 0 ≤ x ∧ x < 18446744073709551616
theorem inU_of {x : Int} (h : isU x) : inU x = true := by unfold inU m64; rw [decide_eq_true h.1, decide_eq_true h.2]; rfl
def satF (s : Int) : Bool := decide (s < 340282366920938463463374607431768211456)
def satH (s : Int) : Int := bif satF s then s / 18446744073709551616 else 18446744073709551615
def satL (s : Int) : Int := bif satF s then s % 18446744073709551616 else 18446744073709551615
theorem satF_t {s : Int} (h : s < 340282366920938463463374607431768211456) : satF s = true := decide_eq_true h
theorem satF_f {s : Int} (h : ¬ s < 340282366920938463463374607431768211456) : satF s = false := decide_eq_false h
theorem sat_of {s h l : Int} (e : s = wv h l) (hh : isU h) (hl : isU l) : satF s = true ∧ satH s = h ∧ satL s = l := by
  unfold isU at hh hl
  unfold wv at e
  have : satF s = true := satF_t (by omega)
  refine ⟨this, ?_, ?_⟩
  · unfold satH; rw [this]; simp only [cond_true]; omega
  · unfold satL; rw [this]; simp only [cond_true]; omega
theorem sat_over {s : Int} (h : ¬ s < 340282366920938463463374607431768211456) : satF s = false ∧ satH s = 18446744073709551615 ∧ satL s = 18446744073709551615 := by
  have := satF_f h
  exact ⟨this, by unfold satH; rw [this]; rfl, by unfold satL; rw [this]; rfl⟩
theorem sat_isU {s : Int} (h : 0 ≤ s) : isU (satH s) ∧ isU (satL s) := by
  unfold isU
  by_cases hs : s < 340282366920938463463374607431768211456
  · have := satF_t hs
    unfold satH satL
    rw [this]
    simp only [cond_true]
    omega
  · rw [(sat_over hs).2.1, (sat_over hs).2.2]
    omega
theorem wadd {a b c d : Int} (ha : isU a) (hb : isU b) (hc : isU c) (hd : isU d) :
    wide_Add_0 a b c d = satH (wv a b + wv c d) ∧ wide_Add_1 a b c d = satL (wv a b + wv c d) ∧ wide_Add_2 a b c d = satF (wv a b + wv c d) ∧ c_wide_Add a b c d = true := by
  have ua := inU_of ha
  have ub := inU_of hb
  have uc := inU_of hc
  have ud := inU_of hd
  unfold isU at ha hb hc hd
  have hcc : c_wide_Add a b c d = true := by
    unfold c_wide_Add
    rw [ua, ub, uc, ud, decide_eq_true (by omega), decide_eq_true (by omega)]
    rfl
  unfold wide_Add_0 wide_Add_1 wide_Add_2
  by_cases h : (a + c + (b + d + 0) / 18446744073709551616) / 18446744073709551616 = 0
  · have e : ((a + c + (b + d + 0) / 18446744073709551616) / 18446744073709551616 != 0) = false := by rw [h]; rfl
    obtain ⟨h1, h2, h3⟩ := sat_of (s := wv a b + wv c d) (h := (a + c + (b + d + 0) / 18446744073709551616) % 18446744073709551616) (l := (b + d + 0) % 18446744073709551616) (by unfold wv; omega) (by unfold isU; omega) (by unfold isU; omega)
    rw [e, h1, h2, h3]
    exact ⟨rfl, rfl, rfl, hcc⟩
  · have e : ((a + c + (b + d + 0) / 18446744073709551616) / 18446744073709551616 != 0) = true := by simpa using h
    obtain ⟨h1, h2, h3⟩ := sat_over (s := wv a b + wv c d) (by unfold wv; omega)
    rw [e, h1, h2, h3]
    exact ⟨rfl, rfl, rfl, hcc⟩
theorem wmul {a b n : Int} (ha : isU a) (hb : isU b) (hn : isU n) :
    wide_Mul_0 a b n = satH (wv a b * n) ∧ wide_Mul_1 a b n = satL (wv a b * n) ∧ wide_Mul_2 a b n = satF (wv a b * n) ∧ c_wide_Mul a b n = true := by
  have ua := inU_of ha
  have ub := inU_of hb
  have un := inU_of hn
  unfold isU at ha hb hn
  have hX : 0 ≤ b * n := Int.mul_nonneg hb.1 hn.1
  have hY : 0 ≤ a * n := Int.mul_nonneg ha.1 hn.1
  have hX2 : b * n ≤ 18446744073709551615 * 18446744073709551615 := Int.mul_le_mul (by omega) (by omega) hn.1 (by omega)
  have hT : wv a b * n = a * n * 18446744073709551616 + b * n := by unfold wv; rw [Int.add_mul, Int.mul_right_comm]
  rw [hT]
  have hcc : c_wide_Mul a b n = true := by
    unfold c_wide_Mul
    rw [ua, ub, un, inU_of (x := a * n % 18446744073709551616) (by unfold isU; omega), inU_of (x := b * n / 18446744073709551616) (by unfold isU; omega)]
    rfl
  unfold wide_Mul_0 wide_Mul_1 wide_Mul_2
  generalize b * n = X at *
  generalize a * n = Y at *
  by_cases h1 : Y / 18446744073709551616 = 0
  · have e1 : (Y / 18446744073709551616 != 0) = false := by rw [h1]; rfl
    rw [e1]
    by_cases h : (Y % 18446744073709551616 + X / 18446744073709551616 + 0) / 18446744073709551616 = 0
    · have e : ((Y % 18446744073709551616 + X / 18446744073709551616 + 0) / 18446744073709551616 != 0) = false := by rw [h]; rfl
      obtain ⟨g1, g2, g3⟩ := sat_of (s := Y * 18446744073709551616 + X) (h := (Y % 18446744073709551616 + X / 18446744073709551616 + 0) % 18446744073709551616) (l := X % 18446744073709551616) (by unfold wv; omega) (by unfold isU; omega) (by unfold isU; omega)
      rw [e, g1, g2, g3]
      exact ⟨rfl, rfl, rfl, hcc⟩
    · have e : ((Y % 18446744073709551616 + X / 18446744073709551616 + 0) / 18446744073709551616 != 0) = true := by simpa using h
      obtain ⟨g1, g2, g3⟩ := sat_over (s := Y * 18446744073709551616 + X) (by omega)
      rw [e, g1, g2, g3]
      exact ⟨rfl, rfl, rfl, hcc⟩
  · have e1 : (Y / 18446744073709551616 != 0) = true := by simpa using h1
    obtain ⟨g1, g2, g3⟩ := sat_over (s := Y * 18446744073709551616 + X) (by omega)
    rw [e1, g1, g2, g3]
    exact ⟨rfl, rfl, rfl, hcc⟩
/-- Four parts. -/
theorem rparts {a b : Int} (ha : isU a) (hb : isU b) : ∃ x0 x1 x2 x3 : Int, haymowref01_Parts_0 a b = x0 ∧ haymowref01_Parts_1 a b = x1 ∧ haymowref01_Parts_2 a b = x2 ∧ haymowref01_Parts_3 a b = x3 ∧
    (0 ≤ x0 ∧ x0 < 4294967296) ∧ (0 ≤ x1 ∧ x1 < 4294967296) ∧ (0 ≤ x2 ∧ x2 < 4294967296) ∧ (0 ≤ x3 ∧ x3 < 4294967296) ∧ b = x1 * 4294967296 + x0 ∧ a = x3 * 4294967296 + x2 := by
  unfold isU at ha hb
  refine ⟨b % 4294967296, b / 4294967296, a % 4294967296, a / 4294967296, ?_, ?_, ?_, ?_, by omega, by omega, by omega, by omega, by omega, by omega⟩
  · unfold haymowref01_Parts_0; rw [Int.tmod_eq_emod_of_nonneg hb.1]
  · unfold haymowref01_Parts_1; exact IntWalk.u64_quo _ _ (by omega)
  · unfold haymowref01_Parts_2; rw [Int.tmod_eq_emod_of_nonneg ha.1]
  · unfold haymowref01_Parts_3; exact IntWalk.u64_quo _ _ (by omega)
/-- One part put on. -/
theorem stp (o p u : Int) (ho : 0 ≤ o) (hp : 0 ≤ p) (hu : 0 ≤ u) (h : o + p + u < 18446744073709551616) : ∃ q r : Int, 0 ≤ q ∧ 0 ≤ r ∧ r < 4294967296 ∧ o + p + u = q * 4294967296 + r ∧
    (IntKind.u64.wrap (IntKind.u64.wrap (o + p) + u)).tmod 4294967296 = r ∧ IntKind.u64.wrap ((IntKind.u64.wrap (IntKind.u64.wrap (o + p) + u)).tdiv 4294967296) = q := by
  rw [IntWalk.u64_in (o + p) (by omega), IntWalk.u64_in (o + p + u) (by omega), Int.tmod_eq_emod_of_nonneg (by omega), IntWalk.u64_quo _ _ (by omega)]
  exact ⟨_, _, by omega, by omega, by omega, by omega, rfl, rfl⟩
theorem rwhole {f0 f1 f2 f3 f4 f5 s : Int} (h0 : 0 ≤ f0 ∧ f0 < 4294967296) (h1 : 0 ≤ f1 ∧ f1 < 4294967296) (h2 : 0 ≤ f2 ∧ f2 < 4294967296) (h3 : 0 ≤ f3 ∧ f3 < 4294967296) (h4 : 0 ≤ f4) (h5 : 0 ≤ f5)
    (e : s = f0 + f1 * 4294967296 + f2 * 18446744073709551616 + f3 * 79228162514264337593543950336 + f4 * 340282366920938463463374607431768211456 + f5 * 1461501637330902918203684832716283019655932542976) :
    haymowref01_Whole_0 f0 f1 f2 f3 f4 f5 = satH s ∧ haymowref01_Whole_1 f0 f1 f2 f3 f4 f5 = satL s ∧ haymowref01_Whole_2 f0 f1 f2 f3 f4 f5 = satF s := by
  unfold haymowref01_Whole_0 haymowref01_Whole_1 haymowref01_Whole_2
  by_cases h : f4 = 0 ∧ f5 = 0
  · obtain ⟨rfl, rfl⟩ := h
    obtain ⟨g1, g2, g3⟩ := sat_of (s := s) (h := f3 * 4294967296 + f2) (l := f1 * 4294967296 + f0) (by unfold wv; omega) (by unfold isU; omega) (by unfold isU; omega)
    rw [g1, g2, g3, IntWalk.u64_in (f3 * 4294967296) (by omega), IntWalk.u64_in (f3 * 4294967296 + f2) (by omega), IntWalk.u64_in (f1 * 4294967296) (by omega), IntWalk.u64_in (f1 * 4294967296 + f0) (by omega)]
    exact ⟨rfl, rfl, rfl⟩
  · have hb : (bif f4 != 0 then true else f5 != 0) = true := by
      by_cases h4' : f4 = 0
      · have : f5 ≠ 0 := fun h' => h ⟨h4', h'⟩
        rw [h4']; simpa using this
      · have : (f4 != 0) = true := by simpa using h4'
        rw [this]; rfl
    obtain ⟨g1, g2, g3⟩ := sat_over (s := s) (by omega)
    rw [hb, g1, g2, g3]
    exact ⟨rfl, rfl, rfl⟩
theorem radd {a b c d : Int} (ha : isU a) (hb : isU b) (hc : isU c) (hd : isU d) :
    haymowref01_Add_0 a b c d = satH (wv a b + wv c d) ∧ haymowref01_Add_1 a b c d = satL (wv a b + wv c d) ∧ haymowref01_Add_2 a b c d = satF (wv a b + wv c d) := by
  obtain ⟨x0, x1, x2, x3, ex0, ex1, ex2, ex3, b0, b1, b2, b3, eb, ea⟩ := rparts ha hb
  obtain ⟨y0, y1, y2, y3, ey0, ey1, ey2, ey3, c0, c1, c2, c3, ed, ec⟩ := rparts hc hd
  unfold haymowref01_Add_0 haymowref01_Add_1 haymowref01_Add_2
  rw [ex0, ex1, ex2, ex3, ey0, ey1, ey2, ey3]
  obtain ⟨q0, r0, p01, p02, p03, p04, p05, p06⟩ := stp x0 y0 0 (by omega) (by omega) (by omega) (by omega)
  simp only [p05, p06]
  obtain ⟨q1, r1, p11, p12, p13, p14, p15, p16⟩ := stp x1 y1 q0 (by omega) (by omega) (by omega) (by omega)
  simp only [p15, p16]
  obtain ⟨q2, r2, p21, p22, p23, p24, p25, p26⟩ := stp x2 y2 q1 (by omega) (by omega) (by omega) (by omega)
  simp only [p25, p26]
  obtain ⟨q3, r3, p31, p32, p33, p34, p35, p36⟩ := stp x3 y3 q2 (by omega) (by omega) (by omega) (by omega)
  simp only [p35, p36]
  have e4 : (IntKind.u64.wrap (0 + q3)).tmod 4294967296 = q3 := by
    rw [IntWalk.u64_in (0 + q3) (by omega), Int.tmod_eq_emod_of_nonneg (by omega)]; omega
  rw [e4]
  exact rwhole (by omega) (by omega) (by omega) (by omega) (by omega) (by omega) (by unfold wv; omega)
theorem stp' (o x y u : Int) (ho : 0 ≤ o ∧ o < 4294967296) (hx : 0 ≤ x ∧ x < 4294967296) (hy : 0 ≤ y ∧ y < 4294967296) (hu : 0 ≤ u ∧ u < 4294967296) : ∃ q r p : Int, p = x * y ∧ 0 ≤ p ∧ p ≤ 18446744065119617025 ∧ (0 ≤ q ∧ q < 4294967296) ∧ (0 ≤ r ∧ r < 4294967296) ∧ o + p + u = q * 4294967296 + r ∧
    (IntKind.u64.wrap (IntKind.u64.wrap (o + IntKind.u64.wrap (x * y)) + u)).tmod 4294967296 = r ∧ IntKind.u64.wrap ((IntKind.u64.wrap (IntKind.u64.wrap (o + IntKind.u64.wrap (x * y)) + u)).tdiv 4294967296) = q := by
  have h1 : 0 ≤ x * y := Int.mul_nonneg hx.1 hy.1
  have h2 : x * y ≤ 4294967295 * 4294967295 := Int.mul_le_mul (by omega) (by omega) hy.1 (by omega)
  rw [IntWalk.u64_in (x * y) (by omega)]
  obtain ⟨q, r, g1, g2, g3, g4, g5, g6⟩ := stp o (x * y) u ho.1 h1 hu.1 (by omega)
  exact ⟨q, r, x * y, rfl, h1, by omega, ⟨g1, by omega⟩, ⟨g2, g3⟩, g4, g5, g6⟩
theorem spread (x0 x1 x2 x3 y0 y1 : Int) : wv (x3 * 4294967296 + x2) (x1 * 4294967296 + x0) * (y1 * 4294967296 + y0) =
    x0 * y0 + x1 * y0 * 4294967296 + x2 * y0 * 18446744073709551616 + x3 * y0 * 79228162514264337593543950336 + x0 * y1 * 4294967296 + x1 * y1 * 18446744073709551616 + x2 * y1 * 79228162514264337593543950336 + x3 * y1 * 340282366920938463463374607431768211456 := by
  unfold wv
  grind
set_option maxRecDepth 100000 in
theorem rmul {a b n : Int} (ha : isU a) (hb : isU b) (hn : isU n) :
    haymowref01_Mul_0 a b n = satH (wv a b * n) ∧ haymowref01_Mul_1 a b n = satL (wv a b * n) ∧ haymowref01_Mul_2 a b n = satF (wv a b * n) := by
  obtain ⟨x0, x1, x2, x3, ex0, ex1, ex2, ex3, b0, b1, b2, b3, eb, ea⟩ := rparts ha hb
  have hn' := hn
  unfold isU at hn'
  obtain ⟨y0, y1, ey0, ey1, c0, c1, en⟩ : ∃ y0 y1 : Int, n.tmod 4294967296 = y0 ∧ IntKind.u64.wrap (n.tdiv 4294967296) = y1 ∧ (0 ≤ y0 ∧ y0 < 4294967296) ∧ (0 ≤ y1 ∧ y1 < 4294967296) ∧ n = y1 * 4294967296 + y0 :=
    ⟨n % 4294967296, n / 4294967296, Int.tmod_eq_emod_of_nonneg hn'.1, IntWalk.u64_quo _ _ (by omega), by omega, by omega, by omega⟩
  unfold haymowref01_Mul_0 haymowref01_Mul_1 haymowref01_Mul_2
  simp only [ex0, ex1, ex2, ex3, ey0, ey1]
  have z : (0 : Int) ≤ 0 ∧ (0 : Int) < 4294967296 := by omega
  obtain ⟨q0, r0, p0, e0, n0, m0, hq0, hr0, h0, t0, d0⟩ := stp' 0 x0 y0 0 (by omega) (by omega) (by omega) (by omega)
  simp only [t0, d0]
  obtain ⟨q1, r1, p1, e1, n1, m1, hq1, hr1, h1, t1, d1⟩ := stp' 0 x1 y0 q0 (by omega) (by omega) (by omega) (by omega)
  simp only [t1, d1]
  obtain ⟨q2, r2, p2, e2, n2, m2, hq2, hr2, h2, t2, d2⟩ := stp' 0 x2 y0 q1 (by omega) (by omega) (by omega) (by omega)
  simp only [t2, d2]
  obtain ⟨q3, r3, p3, e3, n3, m3, hq3, hr3, h3, t3, d3⟩ := stp' 0 x3 y0 q2 (by omega) (by omega) (by omega) (by omega)
  simp only [t3, d3]
  obtain ⟨q4, r4, p4, e4, n4, m4, hq4, hr4, h4, t4, d4⟩ := stp' 0 0 y0 q3 (by omega) (by omega) (by omega) (by omega)
  simp only [t4, d4]
  obtain ⟨q5, r5, p5, e5, n5, m5, hq5, hr5, h5, t5, d5⟩ := stp' 0 0 y0 q4 (by omega) (by omega) (by omega) (by omega)
  simp only [t5]
  obtain ⟨q6, r6, p6, e6, n6, m6, hq6, hr6, h6, t6, d6⟩ := stp' r1 x0 y1 0 (by omega) (by omega) (by omega) (by omega)
  simp only [t6, d6]
  obtain ⟨q7, r7, p7, e7, n7, m7, hq7, hr7, h7, t7, d7⟩ := stp' r2 x1 y1 q6 (by omega) (by omega) (by omega) (by omega)
  simp only [t7, d7]
  obtain ⟨q8, r8, p8, e8, n8, m8, hq8, hr8, h8, t8, d8⟩ := stp' r3 x2 y1 q7 (by omega) (by omega) (by omega) (by omega)
  simp only [t8, d8]
  obtain ⟨q9, r9, p9, e9, n9, m9, hq9, hr9, h9, t9, d9⟩ := stp' r4 x3 y1 q8 (by omega) (by omega) (by omega) (by omega)
  simp only [t9, d9]
  obtain ⟨q10, r10, p10, e10, n10, m10, hq10, hr10, h10, t10, d10⟩ := stp' r5 0 y1 q9 (by omega) (by omega) (by omega) (by omega)
  simp only [t10]
  have hs := spread x0 x1 x2 x3 y0 y1
  rw [← ea, ← eb, ← en, ← e0, ← e1, ← e2, ← e3, ← e6, ← e7, ← e8, ← e9] at hs
  rw [Int.zero_mul] at e4 e5 e10
  subst e4 e5 e10
  clear ex0 ex1 ex2 ex3 ey0 ey1 t0 d0 t1 d1 t2 d2 t3 d3 t4 d4 t5 d5 t6 d6 t7 d7 t8 d8 t9 d9 t10 d10 e0 e1 e2 e3 e6 e7 e8 e9
  exact rwhole hr0 hr6 hr7 hr8 hr9.1 hr10.1 (by rw [hs]; omega)
/-- Held against each other. -/
def cmpV (x y : Int) : Int := bif decide (x < y) then -1 else bif decide (y < x) then 1 else 0
theorem cmp_lt {x y : Int} (h : x < y) : cmpV x y = -1 := by unfold cmpV; rw [decide_eq_true h]; rfl
theorem cmp_gt {x y : Int} (h : y < x) : cmpV x y = 1 := by unfold cmpV; rw [decide_eq_false (by omega), decide_eq_true h]; rfl
theorem cmp_eq {x y : Int} (h : x = y) : cmpV x y = 0 := by unfold cmpV; rw [decide_eq_false (by omega), decide_eq_false (by omega)]; rfl
theorem wcmp {a b c d : Int} (_ : isU a) (hb : isU b) (hc : isU c) (hd : isU d) : wide_Cmp_0 a b c d = cmpV (wv a b) (wv c d) := by
  unfold isU at hb hc hd
  unfold wide_Cmp_0
  by_cases h1 : a < c
  · rw [cmp_lt (by unfold wv; omega), show (a == c) = false by simpa using (by omega : ¬ a = c), decide_eq_true h1]; rfl
  · rw [decide_eq_false h1]
    by_cases h2 : a = c
    · subst h2
      rw [beq_self_eq_true]
      by_cases h3 : b < d
      · rw [cmp_lt (by unfold wv; omega), show (b == d) = false by simpa using (by omega : ¬ b = d), decide_eq_true h3]; rfl
      · rw [decide_eq_false h3]
        by_cases h4 : b = d
        · subst h4; rw [cmp_eq rfl, beq_self_eq_true]; rfl
        · rw [cmp_gt (by unfold wv; omega), show (b == d) = false by simpa using h4]; rfl
    · rw [cmp_gt (by unfold wv; omega), show (a == c) = false by simpa using h2]; rfl
theorem pick3 {x y e r : Int} (h1 : x < y → e = -1) (h2 : y < x → e = 1) (h3 : x = y → e = r) : (bif decide (x < y) then -1 else bif decide (y < x) then 1 else r) = e := by
  by_cases a : x < y
  · rw [decide_eq_true a, h1 a]; rfl
  · by_cases b : y < x
    · rw [decide_eq_false a, decide_eq_true b, h2 b]; rfl
    · rw [decide_eq_false a, decide_eq_false b, h3 (by omega)]; rfl
theorem rcmp {a b c d : Int} (ha : isU a) (hb : isU b) (hc : isU c) (hd : isU d) : haymowref01_Cmp_0 a b c d = cmpV (wv a b) (wv c d) := by
  obtain ⟨x0, x1, x2, x3, ex0, ex1, ex2, ex3, b0, b1, b2, b3, eb, ea⟩ := rparts ha hb
  obtain ⟨y0, y1, y2, y3, ey0, ey1, ey2, ey3, c0, c1, c2, c3, ed, ec⟩ := rparts hc hd
  unfold haymowref01_Cmp_0
  rw [ex0, ex1, ex2, ex3, ey0, ey1, ey2, ey3]
  refine pick3 (fun h => cmp_lt (by unfold wv; omega)) (fun h => cmp_gt (by unfold wv; omega)) fun e3 => Eq.symm (pick3 (fun h => cmp_lt (by unfold wv; omega)) (fun h => cmp_gt (by unfold wv; omega)) fun e2 => Eq.symm (pick3 (fun h => cmp_lt (by unfold wv; omega)) (fun h => cmp_gt (by unfold wv; omega)) fun e1 => Eq.symm (pick3 (fun h => cmp_lt (by unfold wv; omega)) (fun h => cmp_gt (by unfold wv; omega)) fun e0 => cmp_eq (by unfold wv; omega))))
theorem less_iff {x y : Int} : decide (cmpV x y < 0) = decide (x < y) := by
  rcases Int.lt_trichotomy x y with h | h | h
  · rw [cmp_lt h, decide_eq_true h]; rfl
  · rw [cmp_eq h, decide_eq_false (by omega : ¬ x < y)]; rfl
  · rw [cmp_gt h, decide_eq_false (by omega : ¬ x < y)]; rfl
theorem le_iff {x y : Int} (h : x ≤ y) : decide (cmpV x y ≤ 0) = true := by
  rcases Int.lt_trichotomy x y with h | h | h
  · rw [cmp_lt h]; rfl
  · rw [cmp_eq h]; rfl
  · omega
theorem wless {a b c d : Int} (ha : isU a) (hb : isU b) (hc : isU c) (hd : isU d) : wide_Less_0 a b c d = decide (wv a b < wv c d) := by
  unfold wide_Less_0
  rw [wcmp ha hb hc hd, less_iff]
/-- What is left, if any. -/
def subH (x y : Int) : Int := bif decide (x < y) then 0 else (x - y) / 18446744073709551616
def subL (x y : Int) : Int := bif decide (x < y) then 0 else (x - y) % 18446744073709551616
def subF (x y : Int) : Bool := bif decide (x < y) then false else true
theorem wsub {a b c d : Int} (ha : isU a) (hb : isU b) (hc : isU c) (hd : isU d) :
    wide_Sub_0 a b c d = subH (wv a b) (wv c d) ∧ wide_Sub_1 a b c d = subL (wv a b) (wv c d) ∧ wide_Sub_2 a b c d = subF (wv a b) (wv c d) ∧ c_wide_Sub a b c d = true := by
  have ua := inU_of ha
  have ub := inU_of hb
  have uc := inU_of hc
  have ud := inU_of hd
  unfold wide_Sub_0 wide_Sub_1 wide_Sub_2 c_wide_Sub subH subL subF
  rw [wless ha hb hc hd, ua, ub, uc, ud]
  unfold isU at ha hb hc hd
  by_cases h : wv a b < wv c d
  · rw [decide_eq_true h]
    exact ⟨rfl, rfl, rfl, rfl⟩
  · rw [decide_eq_false h]
    unfold borrow
    simp only [cond_false, cond_true]
    by_cases h2 : b < d + 0
    · rw [decide_eq_true h2]
      simp only [cond_true]
      refine ⟨?_, ?_, trivial, rfl⟩ <;> (unfold wv at *; omega)
    · rw [decide_eq_false h2]
      simp only [cond_false]
      refine ⟨?_, ?_, trivial, rfl⟩ <;> (unfold wv at *; omega)
theorem stpS (x y d : Int) (hx : 0 ≤ x ∧ x < 4294967296) (hy : 0 ≤ y ∧ y < 4294967296) (hd : 0 ≤ d ∧ d ≤ 1) : ∃ r e : Int, (0 ≤ r ∧ r < 4294967296) ∧ (0 ≤ e ∧ e ≤ 1) ∧ x - y - d = r - e * 4294967296 ∧
    (IntKind.u64.wrap (IntKind.u64.wrap (IntKind.u64.wrap (x + 4294967296) - y) - d)).tmod 4294967296 = r ∧ IntKind.u64.wrap (1 - IntKind.u64.wrap ((IntKind.u64.wrap (IntKind.u64.wrap (IntKind.u64.wrap (x + 4294967296) - y) - d)).tdiv 4294967296)) = e := by
  rw [IntWalk.u64_in (x + 4294967296) (by omega), IntWalk.u64_in (x + 4294967296 - y) (by omega), IntWalk.u64_in (x + 4294967296 - y - d) (by omega), Int.tmod_eq_emod_of_nonneg (by omega), IntWalk.u64_quo _ _ (by omega), IntWalk.u64_in (1 - (x + 4294967296 - y - d) / 4294967296) (by omega)]
  exact ⟨_, _, by omega, by omega, by omega, rfl, rfl⟩
theorem rsub {a b c d : Int} (ha : isU a) (hb : isU b) (hc : isU c) (hd : isU d) :
    haymowref01_Sub_0 a b c d = subH (wv a b) (wv c d) ∧ haymowref01_Sub_1 a b c d = subL (wv a b) (wv c d) ∧ haymowref01_Sub_2 a b c d = subF (wv a b) (wv c d) := by
  obtain ⟨x0, x1, x2, x3, ex0, ex1, ex2, ex3, b0, b1, b2, b3, eb, ea⟩ := rparts ha hb
  obtain ⟨y0, y1, y2, y3, ey0, ey1, ey2, ey3, c0, c1, c2, c3, ed, ec⟩ := rparts hc hd
  unfold haymowref01_Sub_0 haymowref01_Sub_1 haymowref01_Sub_2 subH subL subF
  rw [rcmp ha hb hc hd, less_iff, ex0, ex1, ex2, ex3, ey0, ey1, ey2, ey3]
  obtain ⟨r0, d0, p00, p01, p02, p03, p04⟩ := stpS x0 y0 0 (by omega) (by omega) (by omega)
  simp only [p03, p04]
  obtain ⟨r1, d1, p10, p11, p12, p13, p14⟩ := stpS x1 y1 d0 (by omega) (by omega) (by omega)
  simp only [p13, p14]
  obtain ⟨r2, d2, p20, p21, p22, p23, p24⟩ := stpS x2 y2 d1 (by omega) (by omega) (by omega)
  simp only [p23, p24]
  obtain ⟨r3, d3, p30, p31, p32, p33, p34⟩ := stpS x3 y3 d2 (by omega) (by omega) (by omega)
  simp only [p33]
  by_cases h : wv a b < wv c d
  · rw [decide_eq_true h]; exact ⟨rfl, rfl, trivial⟩
  · rw [decide_eq_false h]
    simp only [cond_false]
    have hs : wv a b - wv c d = r0 + r1 * 4294967296 + r2 * 18446744073709551616 + r3 * 79228162514264337593543950336 + 0 * 340282366920938463463374607431768211456 + 0 * 1461501637330902918203684832716283019655932542976 := by unfold wv at *; omega
    obtain ⟨g1, g2, _⟩ := rwhole (s := wv a b - wv c d) p00 p10 p20 p30 (Int.le_refl 0) (Int.le_refl 0) hs
    obtain ⟨k1, k2, k3⟩ := sat_of (s := wv a b - wv c d) (h := (wv a b - wv c d) / 18446744073709551616) (l := (wv a b - wv c d) % 18446744073709551616) (by unfold wv; omega) (by unfold isU; omega) (by unfold isU; omega)
    rw [g1, g2, k2, k3]
    exact ⟨rfl, rfl, trivial⟩
end Go.Proofs.Ytanfjgkohhlcoaa
