/-
  Costs: the plain laws.
-/
import Derived.Test.YtanfjgkohhlcoaaWL
import Derived.Test.YtanfjgkohhlcoaaWF
namespace Go.Proofs.Ytanfjgkohhlcoaa
open Go Go.RowKit
theorem wu {x : Int} (h : isU x) : IntKind.u64.wrap x = x := by unfold isU at h; exact IntWalk.u64_in x (by omega)
theorem wv0 (x : Int) : wv 0 x = x := by unfold wv; omega
theorem isU0 : isU 0 := by unfold isU; omega
/-- Numbers of an int. -/
def isI (n : Int) : Prop := -9223372036854775808 ≤ n ∧ n ≤ 9223372036854775807
theorem of_eq {n t : Int} (hn : isI n) (ht : 0 ≤ t ∧ t ≤ 100) : cost_of_0 n t = satH (max n 0 * t) ∧ cost_of_1 n t = satL (max n 0 * t) ∧ c_cost_of n t = true := by
  unfold isI at hn
  have hm : isU (max n 0) := by unfold isU; omega
  obtain ⟨h1, h2, _, h4⟩ := wmul isU0 hm (n := t) (by unfold isU; omega)
  unfold cost_of_0 cost_of_1 c_cost_of
  rw [wu hm, h1, h2, h4, wv0]
  exact ⟨rfl, rfl, rfl⟩
theorem times_eq {n t : Int} (hn : isI n) (ht : 0 ≤ t ∧ t ≤ 100) : haymowref25_Times_0 n t = satH (max n 0 * t) ∧ haymowref25_Times_1 n t = satL (max n 0 * t) := by
  unfold isI at hn
  unfold haymowref25_Times_0 haymowref25_Times_1
  by_cases h : n < 0
  · rw [decide_eq_true h, show max n 0 = 0 by omega, Int.zero_mul]
    exact ⟨rfl, rfl⟩
  · have hm : isU n := by unfold isU; omega
    obtain ⟨h1, h2, _⟩ := rmul isU0 hm (n := t) (by unfold isU; omega)
    rw [decide_eq_false h, wu hm, h1, h2, wv0, show max n 0 = n by omega]
    exact ⟨rfl, rfl⟩
theorem many_nn {n t : Int} (ht : 0 ≤ t) : 0 ≤ max n 0 * t := Int.mul_nonneg (by omega) ht
theorem add0 {a b : Int} (ha : isU a) (hb : isU b) : wide_Add_0 0 0 a b = a ∧ wide_Add_1 0 0 a b = b ∧ c_wide_Add 0 0 a b = true := by
  obtain ⟨h1, h2, _, h4⟩ := wadd isU0 isU0 ha hb
  obtain ⟨_, g2, g3⟩ := sat_of (s := wv 0 0 + wv a b) (h := a) (l := b) (by rw [wv0]; omega) ha hb
  exact ⟨h1.trans g2, h2.trans g3, h4⟩
theorem plus_eq (a b c d : Int) : haymowref25_Plus_0 a b c d = haymowref01_Add_0 a b c d ∧ haymowref25_Plus_1 a b c d = haymowref01_Add_1 a b c d := ⟨rfl, rfl⟩
theorem wv_nn {a b : Int} (ha : isU a) (hb : isU b) : 0 ≤ wv a b := by unfold isU at ha hb; unfold wv; omega
theorem s2_eq {a b c d : Int} (ha : isU a) (hb : isU b) (hc : isU c) (hd : isU d) : sum2_0 a b c d = satH (wv a b + wv c d) ∧ sum2_1 a b c d = satL (wv a b + wv c d) ∧ c_sum2 a b c d = true ∧ haymowref25_Plus_0 a b c d = satH (wv a b + wv c d) ∧ haymowref25_Plus_1 a b c d = satL (wv a b + wv c d) := by
  obtain ⟨h1, h2, h3⟩ := add0 ha hb
  obtain ⟨g1, g2, _, g4⟩ := wadd ha hb hc hd
  obtain ⟨k1, k2, _⟩ := radd ha hb hc hd
  unfold sum2_0 sum2_1 c_sum2
  rw [h1, h2, h3, g1, g2, g4, (plus_eq a b c d).1, (plus_eq a b c d).2, k1, k2]
  exact ⟨rfl, rfl, rfl, rfl, rfl⟩
theorem coll_eq {n k : Int} (hn : isI n) (hk : isI k) : cost_Collection_0 n k = haymowref25_Collection_0 n k ∧ cost_Collection_1 n k = haymowref25_Collection_1 n k ∧ c_cost_Collection n k = true := by
  obtain ⟨a1, a2, a3⟩ := of_eq hn (t := 12) (by omega)
  obtain ⟨b1, b2, b3⟩ := of_eq hk (t := 16) (by omega)
  obtain ⟨c1, c2⟩ := times_eq hn (t := 12) (by omega)
  obtain ⟨d1, d2⟩ := times_eq hk (t := 16) (by omega)
  obtain ⟨u1, u2⟩ := sat_isU (many_nn (n := n) (t := 12) (by omega))
  obtain ⟨v1, v2⟩ := sat_isU (many_nn (n := k) (t := 16) (by omega))
  obtain ⟨e1, e2, e3, e4, e5⟩ := s2_eq u1 u2 v1 v2
  obtain ⟨w1, w2⟩ := sat_isU (Int.add_nonneg (wv_nn u1 u2) (wv_nn v1 v2))
  obtain ⟨f1, f2, _, f4⟩ := wadd w1 w2 isU0 (d := 16) (by unfold isU; omega)
  obtain ⟨g1, g2, _⟩ := radd w1 w2 isU0 (d := 16) (by unfold isU; omega)
  unfold cost_Collection_0 cost_Collection_1 c_cost_Collection haymowref25_Collection_0 haymowref25_Collection_1 sum3_0 sum3_1 c_sum3
  rw [a1, a2, a3, b1, b2, b3, c1, c2, d1, d2, e1, e2, e3, e4, e5, f1, f2, f4, (plus_eq _ _ _ _).1, (plus_eq _ _ _ _).2, g1, g2]
  exact ⟨rfl, rfl, rfl⟩
theorem depo_eq {n k : Int} (hn : isI n) (hk : isI k) : cost_Deposit_0 n k = haymowref25_Deposit_0 n k ∧ cost_Deposit_1 n k = haymowref25_Deposit_1 n k ∧ c_cost_Deposit n k = true := by
  obtain ⟨a1, a2, a3⟩ := of_eq hn (t := 64) (by omega)
  obtain ⟨b1, b2, b3⟩ := of_eq hk (t := 64) (by omega)
  obtain ⟨c1, c2⟩ := times_eq hn (t := 64) (by omega)
  obtain ⟨d1, d2⟩ := times_eq hk (t := 64) (by omega)
  obtain ⟨u1, u2⟩ := sat_isU (many_nn (n := n) (t := 64) (by omega))
  obtain ⟨v1, v2⟩ := sat_isU (many_nn (n := k) (t := 64) (by omega))
  obtain ⟨e1, e2, e3, e4, e5⟩ := s2_eq u1 u2 v1 v2
  unfold cost_Deposit_0 cost_Deposit_1 c_cost_Deposit haymowref25_Deposit_0 haymowref25_Deposit_1
  rw [a1, a2, a3, b1, b2, b3, c1, c2, d1, d2, e1, e2, e3, e4, e5]
  exact ⟨rfl, rfl, rfl⟩
theorem grant_eq {n : Int} (hn : isI n) : cost_Grant_0 n = haymowref25_Grant_0 n ∧ cost_Grant_1 n = haymowref25_Grant_1 n ∧ c_cost_Grant n = true := by
  obtain ⟨a1, a2, a3⟩ := of_eq hn (t := 12) (by omega)
  obtain ⟨c1, c2⟩ := times_eq hn (t := 12) (by omega)
  obtain ⟨u1, u2⟩ := sat_isU (many_nn (n := n) (t := 12) (by omega))
  obtain ⟨e1, e2, e3, e4, e5⟩ := s2_eq u1 u2 isU0 (d := 16) (by unfold isU; omega)
  unfold cost_Grant_0 cost_Grant_1 c_cost_Grant haymowref25_Grant_0 haymowref25_Grant_1
  rw [a1, a2, a3, c1, c2, e1, e2, e3, e4, e5]
  exact ⟨rfl, rfl, rfl⟩
theorem bound_eq {n k l : Int} (hn : isI n) (hk : isI k) (hl : isI l) : cost_Bound_0 n k l = haymowref25_Bound_0 n k l ∧ cost_Bound_1 n k l = haymowref25_Bound_1 n k l ∧ c_cost_Bound n k l = true := by
  obtain ⟨a1, a2, a3⟩ := of_eq hn (t := 80) (by omega)
  obtain ⟨b1, b2, b3⟩ := of_eq hk (t := 80) (by omega)
  obtain ⟨l1, l2, l3⟩ := of_eq hl (t := 80) (by omega)
  obtain ⟨c1, c2⟩ := times_eq hn (t := 80) (by omega)
  obtain ⟨d1, d2⟩ := times_eq hk (t := 80) (by omega)
  obtain ⟨m1, m2⟩ := times_eq hl (t := 80) (by omega)
  obtain ⟨u1, u2⟩ := sat_isU (many_nn (n := n) (t := 80) (by omega))
  obtain ⟨v1, v2⟩ := sat_isU (many_nn (n := k) (t := 80) (by omega))
  obtain ⟨x1, x2⟩ := sat_isU (many_nn (n := l) (t := 80) (by omega))
  obtain ⟨e1, e2, e3, e4, e5⟩ := s2_eq u1 u2 v1 v2
  obtain ⟨w1, w2⟩ := sat_isU (Int.add_nonneg (wv_nn u1 u2) (wv_nn v1 v2))
  obtain ⟨f1, f2, _, f4⟩ := wadd w1 w2 x1 x2
  obtain ⟨g1, g2, _⟩ := radd w1 w2 x1 x2
  unfold cost_Bound_0 cost_Bound_1 c_cost_Bound haymowref25_Bound_0 haymowref25_Bound_1 sum3_0 sum3_1 c_sum3
  rw [a1, a2, a3, b1, b2, b3, l1, l2, l3, c1, c2, d1, d2, m1, m2, e1, e2, e3, e4, e5, f1, f2, f4, (plus_eq _ _ _ _).1, (plus_eq _ _ _ _).2, g1, g2]
  exact ⟨rfl, rfl, rfl⟩
theorem held_eq (n : Int) : cost_Held_0 n = haymowref25_Held_0 n := by
  unfold cost_Held_0 haymowref25_Held_0
  by_cases h : n < 0
  · rw [decide_eq_true h, show max n 0 = 0 by omega]; rfl
  · rw [decide_eq_false h, show max n 0 = n by omega]; rfl
theorem costsums_true {a b c : Int} (ha : isI a) (hb : isI b) (hc : isI c) : haymowlaw25_CostSums_0 a b c = true ∧ c_haymowlaw25_CostSums a b c = true := by
  obtain ⟨a1, a2, a3⟩ := coll_eq ha hb
  obtain ⟨b1, b2, b3⟩ := depo_eq ha hb
  obtain ⟨c1, c2, c3⟩ := grant_eq ha
  obtain ⟨d1, d2, d3⟩ := bound_eq ha hb hc
  unfold haymowlaw25_CostSums_0 c_haymowlaw25_CostSums
  rw [a1, a2, a3, b1, b2, b3, c1, c2, c3, d1, d2, d3, held_eq]
  simp
theorem satS {s : Int} (h : isU s) : satH s = 0 ∧ satL s = s := (sat_of (s := s) (h := 0) (l := s) (by rw [wv0]) isU0 h).2
theorem timesS {n t : Int} (hn : 0 ≤ n ∧ n < 1099511627776) (ht : 0 ≤ t ∧ t ≤ 100) : haymowref25_Times_0 n t = 0 ∧ haymowref25_Times_1 n t = n * t := by
  obtain ⟨h1, h2⟩ := times_eq (n := n) (by unfold isI; omega) ht
  have a : 0 ≤ n * t := Int.mul_nonneg hn.1 ht.1
  have b : n * t ≤ 1099511627776 * 100 := Int.mul_le_mul (by omega) ht.2 ht.1 (by omega)
  rw [show max n 0 = n by omega] at h1 h2
  obtain ⟨g1, g2⟩ := satS (s := n * t) (by unfold isU; omega)
  exact ⟨h1.trans g1, h2.trans g2⟩
theorem plusS {x y : Int} (hx : 0 ≤ x) (hy : 0 ≤ y) (h : x + y < 18446744073709551616) : haymowref25_Plus_0 0 x 0 y = 0 ∧ haymowref25_Plus_1 0 x 0 y = x + y := by
  obtain ⟨h1, h2, _⟩ := radd isU0 (b := x) (by unfold isU; omega) isU0 (d := y) (by unfold isU; omega)
  rw [wv0, wv0] at h1 h2
  obtain ⟨g1, g2⟩ := satS (s := x + y) (by unfold isU; omega)
  exact ⟨h1.trans g1, h2.trans g2⟩
theorem collS {n k : Int} (hn : 0 ≤ n ∧ n < 1099511627776) (hk : 0 ≤ k ∧ k < 1099511627776) : cost_Collection_0 n k = 0 ∧ cost_Collection_1 n k = n * 12 + k * 16 + 16 ∧ c_cost_Collection n k = true := by
  obtain ⟨h1, h2, h3⟩ := coll_eq (n := n) (k := k) (by unfold isI; omega) (by unfold isI; omega)
  obtain ⟨a1, a2⟩ := timesS hn (t := 12) (by omega)
  obtain ⟨b1, b2⟩ := timesS hk (t := 16) (by omega)
  unfold haymowref25_Collection_0 at h1
  unfold haymowref25_Collection_1 at h2
  rw [a1, a2, b1, b2, (plusS (x := n * 12) (y := k * 16) (by omega) (by omega) (by omega)).1, (plusS (x := n * 12) (y := k * 16) (by omega) (by omega) (by omega)).2] at h1 h2
  obtain ⟨c1, c2⟩ := plusS (x := n * 12 + k * 16) (y := 16) (by omega) (by omega) (by omega)
  exact ⟨h1.trans c1, h2.trans c2, h3⟩
theorem grantS {n : Int} (hn : 0 ≤ n ∧ n < 1099511627776) : cost_Grant_0 n = 0 ∧ cost_Grant_1 n = n * 12 + 16 ∧ c_cost_Grant n = true := by
  obtain ⟨h1, h2, h3⟩ := grant_eq (n := n) (by unfold isI; omega)
  obtain ⟨a1, a2⟩ := timesS hn (t := 12) (by omega)
  unfold haymowref25_Grant_0 at h1
  unfold haymowref25_Grant_1 at h2
  rw [a1, a2] at h1 h2
  obtain ⟨c1, c2⟩ := plusS (x := n * 12) (y := 16) (by omega) (by omega) (by omega)
  exact ⟨h1.trans c1, h2.trans c2, h3⟩
theorem depoS {n k : Int} (hn : 0 ≤ n ∧ n < 1099511627776) (hk : 0 ≤ k ∧ k < 1099511627776) : cost_Deposit_0 n k = 0 ∧ cost_Deposit_1 n k = n * 64 + k * 64 ∧ c_cost_Deposit n k = true := by
  obtain ⟨h1, h2, h3⟩ := depo_eq (n := n) (k := k) (by unfold isI; omega) (by unfold isI; omega)
  obtain ⟨a1, a2⟩ := timesS hn (t := 64) (by omega)
  obtain ⟨b1, b2⟩ := timesS hk (t := 64) (by omega)
  unfold haymowref25_Deposit_0 at h1
  unfold haymowref25_Deposit_1 at h2
  rw [a1, a2, b1, b2] at h1 h2
  obtain ⟨c1, c2⟩ := plusS (x := n * 64) (y := k * 64) (by omega) (by omega) (by omega)
  exact ⟨h1.trans c1, h2.trans c2, h3⟩
theorem boundS {n k l : Int} (hn : 0 ≤ n ∧ n < 1099511627776) (hk : 0 ≤ k ∧ k < 1099511627776) (hl : 0 ≤ l ∧ l < 1099511627776) : cost_Bound_0 n k l = 0 ∧ cost_Bound_1 n k l = n * 80 + k * 80 + l * 80 ∧ c_cost_Bound n k l = true := by
  obtain ⟨h1, h2, h3⟩ := bound_eq (n := n) (k := k) (l := l) (by unfold isI; omega) (by unfold isI; omega) (by unfold isI; omega)
  obtain ⟨a1, a2⟩ := timesS hn (t := 80) (by omega)
  obtain ⟨b1, b2⟩ := timesS hk (t := 80) (by omega)
  obtain ⟨d1, d2⟩ := timesS hl (t := 80) (by omega)
  unfold haymowref25_Bound_0 at h1
  unfold haymowref25_Bound_1 at h2
  rw [a1, a2, b1, b2, d1, d2, (plusS (x := n * 80) (y := k * 80) (by omega) (by omega) (by omega)).1, (plusS (x := n * 80) (y := k * 80) (by omega) (by omega) (by omega)).2] at h1 h2
  obtain ⟨c1, c2⟩ := plusS (x := n * 80 + k * 80) (y := l * 80) (by omega) (by omega) (by omega)
  exact ⟨h1.trans c1, h2.trans c2, h3⟩
theorem cmpS {x y : Int} (hx : isU x) (hy : isU y) (h : x ≤ y) : decide (haymowref01_Cmp_0 0 x 0 y ≤ 0) = true := by
  rw [rcmp isU0 hx isU0 hy, wv0, wv0]
  exact le_iff h
theorem wi {x : Int} (h : isI x) : IntKind.i64.wrap x = x := by unfold isI at h; exact IntWalk.i64_in x ⟨h.1, h.2⟩
def isW (x : Int) : Prop := 0 ≤ x ∧ x < 4294967296
theorem costpays_true {n0 n1 n2 n3 n4 : Int} (h0 : isW n0) (h1 : isW n1) (h2 : isW n2) (h3 : isW n3) (h4 : isW n4) : haymowlaw25_CostPays_0 n0 n1 n2 n3 n4 = true ∧ c_haymowlaw25_CostPays n0 n1 n2 n3 n4 = true := by
  unfold isW at h0 h1 h2 h3 h4
  have U : ∀ x : Int, 0 ≤ x → x < 18446744073709551616 → IntKind.u64.wrap x = x := fun x a b => wu (by unfold isU; omega)
  obtain ⟨c1, c2, c3⟩ := collS (n := n3) (k := n4) (by omega) (by omega)
  unfold haymowlaw25_CostPays_0 c_haymowlaw25_CostPays
  rw [U n0 (by omega) (by omega), U n1 (by omega) (by omega), U n2 (by omega) (by omega), U n3 (by omega) (by omega), U n4 (by omega) (by omega), U (n1 + n2) (by omega) (by omega), U (n0 + n1) (by omega) (by omega), wi (x := n3) (by unfold isI; omega), wi (x := n4) (by unfold isI; omega),
    U (42 * (n1 + n2)) (by omega) (by omega), U (18 * n4) (by omega) (by omega), U (42 * (n1 + n2) + 18 * n4) (by omega) (by omega), c1, c2, c3]
  by_cases a : n1 + n2 ≤ n0
  · rw [decide_eq_true a]; exact ⟨rfl, rfl⟩
  · by_cases b : n0 + n1 < n3
    · rw [decide_eq_false a, decide_eq_true b]; exact ⟨rfl, rfl⟩
    · rw [decide_eq_false a, decide_eq_false b, cmpS (by unfold isU; omega) (by unfold isU; omega) (by omega)]
      exact ⟨rfl, rfl⟩
theorem costrises_true {n k a b o : Int} (hn : isW n) (hk : isW k) (ha : isW a) (hb : isW b) (ho : isW o) : haymowlaw25_CostRises_0 n k a b o = true ∧ c_haymowlaw25_CostRises n k a b o = true := by
  unfold isW at hn hk ha hb ho
  have U : ∀ x : Int, 0 ≤ x → x < 18446744073709551616 → IntKind.u64.wrap x = x := fun x a b => wu (by unfold isU; omega)
  have I : ∀ x : Int, 0 ≤ x → x < 9223372036854775808 → IntKind.i64.wrap x = x := fun x a b => wi (by unfold isI; omega)
  obtain ⟨c1, c2, c3⟩ := collS (n := n) (k := k) (by omega) (by omega)
  obtain ⟨d1, d2, d3⟩ := collS (n := n + a) (k := k + b) (by omega) (by omega)
  obtain ⟨g1, g2, g3⟩ := grantS (n := n) (by omega)
  obtain ⟨e1, e2, e3⟩ := depoS (n := a) (k := o) (by omega) (by omega)
  obtain ⟨f1, f2, f3⟩ := boundS (n := a) (k := o) (l := n) (by omega) (by omega) (by omega)
  obtain ⟨t1, t2⟩ := timesS (n := n) (t := 12) (by omega) (by omega)
  obtain ⟨u1, u2⟩ := timesS (n := o) (t := 16) (by omega) (by omega)
  obtain ⟨p1, p2⟩ := plusS (x := n * 12 + 16) (y := 18 * k) (by omega) (by omega) (by omega)
  obtain ⟨q1, q2⟩ := plusS (x := n * 12) (y := o * 16) (by omega) (by omega) (by omega)
  obtain ⟨r1, r2⟩ := plusS (x := a * 64 + o * 64) (y := n * 12 + o * 16) (by omega) (by omega) (by omega)
  have z1 := cmpS (x := n * 12 + k * 16 + 16) (y := (n + a) * 12 + (k + b) * 16 + 16) (by unfold isU; omega) (by unfold isU; omega) (by omega)
  have z2 := cmpS (x := n * 12 + k * 16 + 16) (y := n * 12 + 16 + 18 * k) (by unfold isU; omega) (by unfold isU; omega) (by omega)
  have z3 := cmpS (x := a * 64 + o * 64 + (n * 12 + o * 16)) (y := a * 80 + o * 80 + n * 80) (by unfold isU; omega) (by unfold isU; omega) (by omega)
  unfold haymowlaw25_CostRises_0 c_haymowlaw25_CostRises
  rw [I n (by omega) (by omega), I k (by omega) (by omega), I a (by omega) (by omega), I b (by omega) (by omega), I o (by omega) (by omega), I (n + a) (by omega) (by omega), I (k + b) (by omega) (by omega), U k (by omega) (by omega), U (18 * k) (by omega) (by omega)]
  simp only [c1, c2, c3, d1, d2, d3, g1, g2, g3, e1, e2, e3, f1, f2, f3, t1, t2, u1, u2, p1, p2, q1, q2, r1, r2, z1, z2, z3, cond_true, Bool.not_true, Bool.false_or, and_self]
end Go.Proofs.Ytanfjgkohhlcoaa
