/- Whole numbers below 2^53 as doubles: what their words stand for, their order, sums, differences, and the way back. -/
import Derived.Laws.FloatArith
namespace Go.Proofs.Ytibalalijfdkoaa
open Ieee

/-- The word of a whole number. -/
def fl (n : Int) : Nat := floatOfInt .f64 n

theorem log2_mul_pow (m k : Nat) (h : m ≠ 0) : (m * 2 ^ k).log2 = m.log2 + k := by
  have hp : 0 < 2 ^ k := Nat.two_pow_pos k
  have hm : m * 2 ^ k ≠ 0 := Nat.mul_ne_zero h (by omega)
  apply Nat.le_antisymm
  · apply Nat.le_of_lt_succ
    rw [Nat.log2_lt hm, Nat.succ_eq_add_one, show m.log2 + k + 1 = (m.log2 + 1) + k by omega, Nat.pow_add]
    exact Nat.mul_lt_mul_of_pos_right ((Nat.log2_lt h).1 (Nat.lt_succ_self _)) hp
  · rw [Nat.le_log2 hm, Nat.pow_add]
    exact Nat.mul_le_mul_right _ ((Nat.le_log2 h).1 (Nat.le_refl _))

theorem cut_exact (way : Toward) (neg : Bool) (m k : Nat) : way.cut neg (m * 2 ^ k) k = m := by
  have hp : 0 < 2 ^ k := Nat.two_pow_pos k
  by_cases h : m = 0
  · subst h
    have hp2 : 0 < 2 ^ min k (0 + 2) := Nat.two_pow_pos _
    have : Nat.log2 0 = 0 := by decide
    cases way <;> simp [Toward.cut, this, Nat.shiftLeft_eq] <;> omega
  · have hl : min k ((m * 2 ^ k).log2 + 2) = k := by rw [log2_mul_pow m k h]; omega
    cases way <;> simp [Toward.cut, hl, Nat.shiftLeft_eq, Nat.mul_div_cancel _ hp] <;> omega

/-- The rung of a whole number from 1 up to 2^53. -/
def rungOf (m : Nat) : Nat := (m.log2 + 1022) * 2 ^ 52 + m * 2 ^ (52 - m.log2)

theorem norm_bounds (m : Nat) (h : m ≠ 0) (hm : m < 2 ^ 53) : m.log2 ≤ 52 ∧ 2 ^ 52 ≤ m * 2 ^ (52 - m.log2) ∧ m * 2 ^ (52 - m.log2) < 2 ^ 53 := by
  have h1 : m.log2 < 53 := (Nat.log2_lt h).2 hm
  have h2 : 2 ^ m.log2 ≤ m := (Nat.le_log2 h).1 (Nat.le_refl _)
  have h3 : m < 2 ^ (m.log2 + 1) := (Nat.log2_lt h).1 (Nat.lt_succ_self _)
  have hp : 0 < 2 ^ (52 - m.log2) := Nat.two_pow_pos _
  refine ⟨by omega, ?_, ?_⟩
  · calc 2 ^ 52 = 2 ^ m.log2 * 2 ^ (52 - m.log2) := by rw [← Nat.pow_add]; congr 1; omega
      _ ≤ _ := Nat.mul_le_mul_right _ h2
  · calc m * 2 ^ (52 - m.log2) < 2 ^ (m.log2 + 1) * 2 ^ (52 - m.log2) := Nat.mul_lt_mul_of_pos_right h3 hp
      _ = 2 ^ 53 := by rw [← Nat.pow_add]; congr 1; omega

theorem nearest_whole (neg : Bool) (m k : Nat) (h : m ≠ 0) (hm : m < 2 ^ 53) : double.nearest neg (m * 2 ^ k) (-(k : Int)) = double.word neg (rungOf m) := by
  obtain ⟨h1, h2, h3⟩ := norm_bounds m h hm
  have hp : 0 < 2 ^ k := Nat.two_pow_pos k
  have hm0 : m * 2 ^ k ≠ 0 := Nat.mul_ne_zero h (by omega)
  have hlast : max (-(k : Int) + ((m * 2 ^ k).log2 : Int) - (double.fractionBits : Int)) double.leastPlace = (m.log2 : Int) - 52 := by
    rw [log2_mul_pow m k h]
    have e1 : double.leastPlace = -1074 := by decide
    have e2 : double.fractionBits = 52 := rfl
    rw [e1, e2]; omega
  unfold Format.nearest
  rw [if_neg hm0]
  simp only [hlast]
  have hkept : Toward.even.cut neg ((m * 2 ^ k) <<< (-(k : Int) - ((m.log2 : Int) - 52)).toNat) ((m.log2 : Int) - 52 - -(k : Int)).toNat = m * 2 ^ (52 - m.log2) := by
    by_cases hk : k ≤ 52 - m.log2
    · have e1 : (-(k : Int) - ((m.log2 : Int) - 52)).toNat = 52 - m.log2 - k := by omega
      have e2 : ((m.log2 : Int) - 52 - -(k : Int)).toNat = 0 := by omega
      rw [e1, e2, Nat.shiftLeft_eq, Nat.mul_assoc, ← Nat.pow_add, show k + (52 - m.log2 - k) = 52 - m.log2 by omega]
      simpa using cut_exact .even neg (m * 2 ^ (52 - m.log2)) 0
    · have e1 : (-(k : Int) - ((m.log2 : Int) - 52)).toNat = 0 := by omega
      have e2 : ((m.log2 : Int) - 52 - -(k : Int)).toNat = k - (52 - m.log2) := by omega
      rw [e1, e2, Nat.shiftLeft_zero, show m * 2 ^ k = m * 2 ^ (52 - m.log2) * 2 ^ (k - (52 - m.log2)) by rw [Nat.mul_assoc, ← Nat.pow_add]; congr 2; omega]
      exact cut_exact ..
  rw [hkept]
  have e3 : ((m.log2 : Int) - 52 - double.leastPlace).toNat = m.log2 + 1022 := by
    have e1 : double.leastPlace = -1074 := by decide
    rw [e1]; omega
  rw [e3]
  have e4 : double.binade = 2 ^ 52 := rfl
  have e5 : double.infRung = 2047 * 2 ^ 52 := by decide
  rw [e4, e5, Nat.min_eq_left]
  · rfl
  · omega

theorem fl_word (n : Int) (h : n ≠ 0) (hm : n.natAbs < 2 ^ 53) : fl n = double.word (decide (n < 0)) (rungOf n.natAbs) := by
  have := nearest_whole (decide (n < 0)) n.natAbs 0 (by omega) hm
  simpa [fl, floatOfInt, FloatKind.nearest, FloatKind.encode, FloatKind.format, Format.write] using this

theorem fl_zero : fl 0 = 0 := by decide

theorem read_word (neg : Bool) (m : Nat) (h : m ≠ 0) (hm : m < 2 ^ 53) : double.read (double.word neg (rungOf m)) = .number neg (m * 2 ^ (52 - m.log2)) (-((52 - m.log2 : Nat) : Int)) := by
  obtain ⟨h1, h2, h3⟩ := norm_bounds m h hm
  have e1 : double.leastPlace = -1074 := by decide
  have e4 : double.binade = 2 ^ 52 := rfl
  have e5 : double.infRung = 2047 * 2 ^ 52 := by decide
  have e6 : double.signWeight = 2 ^ 63 := by decide
  have hr : rungOf m = (m.log2 + 1022) * 2 ^ 52 + m * 2 ^ (52 - m.log2) := rfl
  generalize hq : m * 2 ^ (52 - m.log2) = q at *
  generalize hL : m.log2 = L at *
  have hrl : rungOf m < 2 ^ 63 := by rw [hr]; omega
  have hd : double.word neg (rungOf m) / 2 ^ 63 % 2 = neg.toNat := by
    cases neg <;> simp [Format.word, e6] <;> omega
  have hmo : double.word neg (rungOf m) % 2 ^ 63 = rungOf m := by
    cases neg <;> simp [Format.word, e6] <;> omega
  unfold Format.read
  simp only [e4, e5, e6, e1, hd, hmo]
  rw [if_neg (by rw [hr]; omega), if_pos (by rw [hr]; omega)]
  have hmod : rungOf m % 2 ^ 52 = q - 2 ^ 52 := by rw [hr]; omega
  have hdiv : rungOf m / 2 ^ 52 = L + 1023 := by rw [hr]; omega
  rw [hmod, hdiv]
  have n1 : (neg.toNat == 1) = neg := by cases neg <;> rfl
  have n2 : 2 ^ 52 + (q - 2 ^ 52) = q := by omega
  have n3 : (-1074 : Int) + ((L + 1023 - 1 : Nat) : Int) = -((52 - L : Nat) : Int) := by omega
  rw [n1, n2, n3]

/-- What a whole number's word stands for. -/
theorem read_fl (n : Int) (hm : n.natAbs < 2 ^ 53) : ∃ k : Nat, k ≤ 1074 ∧ double.read (fl n) = .number (decide (n < 0)) (n.natAbs * 2 ^ k) (-(k : Int)) := by
  by_cases h : n = 0
  · subst h
    obtain ⟨k, hk⟩ : ∃ k : Nat, k = 1074 := ⟨_, rfl⟩
    refine ⟨k, by omega, ?_⟩
    have e : double.read 0 = .number false 0 (-1074) := by decide
    have z : ∀ k, (0 : Int).natAbs * 2 ^ k = 0 := fun k => by simp
    rw [fl_zero, e, z k, hk]
    rfl
  · refine ⟨52 - n.natAbs.log2, by omega, ?_⟩
    rw [fl_word n h hm, read_word _ _ (by omega) hm]

theorem signed_fl (n : Int) (k j : Nat) : signed (decide (n < 0)) (n.natAbs * 2 ^ k) j = n * 2 ^ (k + j) := by
  unfold signed
  rw [Nat.shiftLeft_eq, Nat.mul_assoc, ← Nat.pow_add]
  by_cases h : n < 0
  · simp only [h, decide_true, if_true]
    rw [Int.natCast_mul, Int.natCast_pow, ← Int.neg_mul, show -(n.natAbs : Int) = n by omega]; rfl
  · simp only [h, decide_false, Bool.false_eq_true, if_false]
    rw [Int.natCast_mul, Int.natCast_pow, show (n.natAbs : Int) = n by omega]; rfl

theorem write_whole (neg : Bool) (n : Int) (k : Nat) (hn : n ≠ 0 → neg = decide (n < 0)) (h0 : n = 0 → neg = false) (hm : n.natAbs < 2 ^ 53) :
    double.write (.number neg (n * 2 ^ k).natAbs (-(k : Int))) = fl n := by
  have e : (n * 2 ^ k).natAbs = n.natAbs * 2 ^ k := by rw [Int.natAbs_mul, Int.natAbs_pow]; rfl
  rw [e]
  by_cases h : n = 0
  · subst h
    rw [h0 rfl, fl_zero]
    simp [Format.write, Format.nearest, Format.word]
  · rw [fl_word n h hm, hn h]
    exact nearest_whole _ _ _ (by omega) hm

theorem pow_pos_int (k : Nat) : (0 : Int) < 2 ^ k := Int.pow_pos (by decide)

theorem add_fl (a b : Int) (ha : a.natAbs < 2 ^ 53) (hb : b.natAbs < 2 ^ 53) (hab : (a + b).natAbs < 2 ^ 53) : double.add (fl a) (fl b) = some (fl (a + b)) := by
  obtain ⟨i, hi, ea⟩ := read_fl a ha
  obtain ⟨j, hj, eb⟩ := read_fl b hb
  unfold Format.add
  rw [ea, eb]
  simp only [Datum.sum, Option.map_some]
  have hbase : min (-(i : Int)) (-(j : Int)) = -((max i j : Nat) : Int) := by omega
  rw [hbase, signed_fl, signed_fl]
  have e1 : i + (-(i : Int) - -((max i j : Nat) : Int)).toNat = max i j := by omega
  have e2 : j + (-(j : Int) - -((max i j : Nat) : Int)).toNat = max i j := by omega
  rw [e1, e2, ← Int.add_mul]
  generalize max i j = K
  have hp := pow_pos_int K
  congr 1
  refine write_whole _ _ _ ?_ ?_ hab
  · intro h
    rw [if_neg (Int.mul_ne_zero h (by omega))]
    congr 1
    rw [eq_iff_iff]
    constructor
    · intro hh; by_cases hq : a + b < 0
      · exact hq
      · have := Int.mul_nonneg (by omega : 0 ≤ a + b) (Int.le_of_lt hp); omega
    · intro hh; exact Int.mul_neg_of_neg_of_pos hh hp
  · intro h
    rw [h, Int.zero_mul, if_pos rfl]
    by_cases h1 : a < 0 <;> simp [h1]
    omega

theorem sub_fl (a b : Int) (ha : a.natAbs < 2 ^ 53) (hb : b.natAbs < 2 ^ 53) (hab : (a - b).natAbs < 2 ^ 53) : double.sub (fl a) (fl b) = some (fl (a - b)) := by
  obtain ⟨i, hi, ea⟩ := read_fl a ha
  obtain ⟨j, hj, eb⟩ := read_fl b hb
  unfold Format.sub
  rw [ea, eb]
  simp only [Datum.sum, Datum.opposite, Option.map_some]
  have hbase : min (-(i : Int)) (-(j : Int)) = -((max i j : Nat) : Int) := by omega
  have hneg : ∀ m k, signed (!decide (b < 0)) m k = - signed (decide (b < 0)) m k := by
    intro m k; unfold signed; by_cases h : b < 0 <;> simp [h]
  rw [hbase, hneg, signed_fl, signed_fl]
  have e1 : i + (-(i : Int) - -((max i j : Nat) : Int)).toNat = max i j := by omega
  have e2 : j + (-(j : Int) - -((max i j : Nat) : Int)).toNat = max i j := by omega
  rw [e1, e2, ← Int.sub_eq_add_neg, ← Int.sub_mul]
  generalize max i j = K
  have hp := pow_pos_int K
  congr 1
  refine write_whole _ _ _ ?_ ?_ hab
  · intro h
    rw [if_neg (Int.mul_ne_zero h (by omega))]
    congr 1
    rw [eq_iff_iff]
    constructor
    · intro hh; by_cases hq : a - b < 0
      · exact hq
      · have := Int.mul_nonneg (by omega : 0 ≤ a - b) (Int.le_of_lt hp); omega
    · intro hh; exact Int.mul_neg_of_neg_of_pos hh hp
  · intro h
    rw [h, Int.zero_mul, if_pos rfl]
    by_cases h1 : a < 0 <;> simp [h1]
    omega

theorem order_fl (a b : Int) (ha : a.natAbs < 2 ^ 53) (hb : b.natAbs < 2 ^ 53) : double.order (fl a) (fl b) = some (compare a b) := by
  obtain ⟨i, hi, ea⟩ := read_fl a ha
  obtain ⟨j, hj, eb⟩ := read_fl b hb
  unfold Format.order
  rw [ea, eb]
  simp only [Datum.order]
  have hbase : min (-(i : Int)) (-(j : Int)) = -((max i j : Nat) : Int) := by omega
  rw [hbase, signed_fl, signed_fl]
  have e1 : i + (-(i : Int) - -((max i j : Nat) : Int)).toNat = max i j := by omega
  have e2 : j + (-(j : Int) - -((max i j : Nat) : Int)).toNat = max i j := by omega
  rw [e1, e2]
  generalize max i j = K
  have hp := pow_pos_int K
  congr 1
  rcases Int.lt_trichotomy a b with h | h | h
  · rw [Int.compare_eq_lt.2 h, Int.compare_eq_lt.2 (Int.mul_lt_mul_of_pos_right h hp)]
  · subst h; simp
  · rw [Int.compare_eq_gt.2 h, Int.compare_eq_gt.2 (Int.mul_lt_mul_of_pos_right h hp)]

theorem toInt_fl (n : Int) (h : n.natAbs < 2 ^ 53) : floatToIntVal .f64 (fl n) .i64 = some n := by
  obtain ⟨k, hk, e⟩ := read_fl n h
  unfold floatToIntVal FloatKind.decode
  simp only [FloatKind.format, e, Datum.toInt, Datum.integral]
  have e1 : (-(k : Int)).toNat = 0 := by omega
  have e2 : (- -(k : Int)).toNat = k := by omega
  rw [e1, e2, Nat.shiftLeft_zero, cut_exact]
  have := signed_fl n 0 0
  simp at this
  rw [this]
  rw [if_pos]
  have h1 : IntKind.i64.min = -9223372036854775808 := by decide
  have h2 : IntKind.i64.max = 9223372036854775807 := by decide
  rw [h1, h2]
  omega

theorem neg_fl (n : Int) (h : n ≠ 0) (hm : n.natAbs < 2 ^ 53) : Op.negFloat .f64 (fl n) = fl (-n) := by
  rw [fl_word n h hm, fl_word (-n) (by omega) (by omega), Int.natAbs_neg]
  obtain ⟨h1, h2, h3⟩ := norm_bounds n.natAbs (by omega) hm
  have hr : rungOf n.natAbs = (n.natAbs.log2 + 1022) * 2 ^ 52 + n.natAbs * 2 ^ (52 - n.natAbs.log2) := rfl
  have hl : rungOf n.natAbs < 2 ^ 63 := by rw [hr]; omega
  have e6 : double.signWeight = 2 ^ 63 := by decide
  have e7 : FloatKind.f64.format.exponentBits + FloatKind.f64.format.fractionBits = 63 := by decide
  unfold Op.negFloat
  rw [e7]
  generalize rungOf n.natAbs = r at *
  have hx : ∀ r : Nat, r < 2 ^ 63 → r ^^^ 2 ^ 63 = 2 ^ 63 + r := by
    intro r hr
    apply Nat.eq_of_testBit_eq
    intro i
    rw [Nat.testBit_xor, Nat.testBit_two_pow]
    rcases Nat.lt_trichotomy i 63 with h | h | h
    · rw [Nat.testBit_two_pow_add_gt h, decide_eq_false (by omega)]; simp
    · subst h
      rw [Nat.testBit_two_pow_add_eq, Nat.testBit_lt_two_pow hr]; simp
    · have h1 : r < 2 ^ i := Nat.lt_of_lt_of_le hr (Nat.pow_le_pow_right (by omega) (by omega))
      have h2 : 2 ^ 63 + r < 2 ^ i := Nat.lt_of_lt_of_le (show 2 ^ 63 + r < 2 ^ 64 by omega) (Nat.pow_le_pow_right (by omega) (by omega))
      rw [Nat.testBit_lt_two_pow h1, Nat.testBit_lt_two_pow h2, decide_eq_false (by omega)]; rfl
  by_cases hn : n < 0
  · have hn' : ¬ -n < 0 := by omega
    simp only [hn, hn', decide_true, decide_false, Format.word, e6, if_true, Bool.false_eq_true, if_false]
    rw [← hx r hl, Nat.xor_assoc, Nat.xor_self, Nat.xor_zero]
  · have hn' : -n < 0 := by omega
    simp only [hn, hn', decide_true, decide_false, Format.word, e6, if_true, Bool.false_eq_true, if_false]
    exact hx r hl

/-- Minus nought. -/
theorem neg_fl_zero : Op.negFloat .f64 (fl 0) = 2 ^ 63 := by rw [fl_zero]; decide

theorem order_low (n : Int) (hm : n.natAbs < 2 ^ 53) : double.order (fl n) 14114281232179134464 = some .gt := by
  obtain ⟨k, hk, e⟩ := read_fl n hm
  have e2 : double.read 14114281232179134464 = .number true (2 ^ 52) 11 := by decide
  unfold Format.order
  rw [e, e2]
  simp only [Datum.order]
  have hbase : min (-(k : Int)) 11 = -(k : Int) := by omega
  rw [hbase, signed_fl]
  have e1 : (-(k : Int) - -(k : Int)).toNat = 0 := by omega
  have e3 : ((11 : Int) - -(k : Int)).toNat = 11 + k := by omega
  rw [e1, e3]
  congr 1
  rw [Int.compare_eq_gt]
  have hp := pow_pos_int k
  simp only [signed, if_true, Nat.shiftLeft_eq, Nat.pow_add, Nat.add_zero]
  rw [show (((2 ^ 52 * (2 ^ 11 * 2 ^ k) : Nat) : Int)) = 2 ^ 63 * 2 ^ k by rw [← Nat.mul_assoc, ← Nat.pow_add]; simp]
  have := Int.mul_lt_mul_of_pos_right (show -(2 ^ 63 : Int) < n by omega) hp
  rw [Int.neg_mul] at this
  exact this

theorem order_high (n : Int) (hm : n.natAbs < 2 ^ 53) : double.order (fl n) 4890909195324358656 = some .lt := by
  obtain ⟨k, hk, e⟩ := read_fl n hm
  have e2 : double.read 4890909195324358656 = .number false (2 ^ 52) 11 := by decide
  unfold Format.order
  rw [e, e2]
  simp only [Datum.order]
  have hbase : min (-(k : Int)) 11 = -(k : Int) := by omega
  rw [hbase, signed_fl]
  have e1 : (-(k : Int) - -(k : Int)).toNat = 0 := by omega
  have e3 : ((11 : Int) - -(k : Int)).toNat = 11 + k := by omega
  rw [e1, e3]
  congr 1
  rw [Int.compare_eq_lt]
  have hp := pow_pos_int k
  simp only [signed, if_false, Nat.shiftLeft_eq, Nat.pow_add, Nat.add_zero, Bool.false_eq_true]
  rw [show (((2 ^ 52 * (2 ^ 11 * 2 ^ k) : Nat) : Int)) = 2 ^ 63 * 2 ^ k by rw [← Nat.mul_assoc, ← Nat.pow_add]; simp]
  exact Int.mul_lt_mul_of_pos_right (show n < (2 ^ 63 : Int) by omega) hp
end Go.Proofs.Ytibalalijfdkoaa
