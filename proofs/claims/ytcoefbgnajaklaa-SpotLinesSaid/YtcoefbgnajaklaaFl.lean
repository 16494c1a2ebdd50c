/- Whole numbers as floats of 64 bits: those below 2^53 are told exactly: sums, comparison, and back. Plain laws, with no program in sight. -/
import GoSem.Core.Float
import Derived.Laws.ComplexArith
import Derived.Laws.Cover3
namespace Go.Proofs.Ytcoefbgnajaklaa.Fl
open Ieee
set_option linter.unusedVariables false
set_option linter.unusedSimpArgs false

/-- The word of a whole number from 0 on. -/
def fl (n : Nat) : Nat := Ieee.double.write (.number false n 0)

theorem cut0 (neg : Bool) (n : Nat) : Toward.even.cut neg n 0 = n := by
  have h1 : (1 : Nat) <<< min 0 (n.log2 + 2) = 1 := by simp
  unfold Toward.cut
  rw [h1]
  simp [Nat.mod_one]
theorem cut_exact (neg : Bool) (n d : Nat) (h : d ≤ (n * 2 ^ d).log2 + 2) : Toward.even.cut neg (n * 2 ^ d) d = n := by
  unfold Toward.cut
  dsimp only
  rw [Nat.min_eq_left h, Nat.one_shiftLeft, Nat.mul_mod_left, Nat.mul_div_cancel _ (Nat.two_pow_pos d)]
  simp
theorem log2_mul (n d : Nat) (h : n ≠ 0) : (n * 2 ^ d).log2 = n.log2 + d := by
  have h1 : n * 2 ^ d ≠ 0 := Nat.mul_ne_zero h (Nat.pos_iff_ne_zero.1 (Nat.two_pow_pos d))
  have a := Nat.log2_self_le h
  have b := @Nat.lt_log2_self n
  apply Nat.le_antisymm
  · apply Nat.le_of_lt_succ
    rw [Nat.log2_lt h1]
    calc n * 2 ^ d < 2 ^ (n.log2 + 1) * 2 ^ d := Nat.mul_lt_mul_of_pos_right b (Nat.two_pow_pos d)
      _ = 2 ^ (n.log2 + d + 1) := by rw [← Nat.pow_add]; congr 1; omega
  · rw [Nat.le_log2 h1]
    calc 2 ^ (n.log2 + d) = 2 ^ n.log2 * 2 ^ d := Nat.pow_add ..
      _ ≤ n * 2 ^ d := Nat.mul_le_mul_right _ a
theorem leastPlace_eq : Ieee.double.leastPlace = -1074 := by decide
theorem log2_le {n : Nat} (h : n < 2 ^ 53) : n.log2 ≤ 52 := by
  by_cases h0 : n = 0
  · subst h0; decide
  · have := (Nat.log2_lt h0).2 h; omega
/-- The rung of a whole number. -/
theorem nearest_rep (n : Nat) (h0 : n ≠ 0) (h : n < 2 ^ 53) (k : Nat) : Ieee.double.nearest false (n * 2 ^ k) (-(k : Int)) = (n.log2 + 1022) * 2 ^ 52 + n * 2 ^ (52 - n.log2) := by
  have hL := log2_le h
  have h1 : n * 2 ^ k ≠ 0 := Nat.mul_ne_zero h0 (Nat.pos_iff_ne_zero.1 (Nat.two_pow_pos k))
  have hb : n * 2 ^ (52 - n.log2) < 2 ^ 53 := by
    calc n * 2 ^ (52 - n.log2) < 2 ^ (n.log2 + 1) * 2 ^ (52 - n.log2) := Nat.mul_lt_mul_of_pos_right Nat.lt_log2_self (Nat.two_pow_pos _)
      _ = 2 ^ 53 := by rw [← Nat.pow_add]; congr 1; omega
  unfold Format.nearest
  rw [if_neg h1, log2_mul n k h0, leastPlace_eq]
  have e1 : max (-(k : Int) + ((n.log2 + k : Nat) : Int) - ((Ieee.double.fractionBits : Nat) : Int)) (-1074) = (n.log2 : Int) - 52 := by
    have : Ieee.double.fractionBits = 52 := rfl
    rw [this]; omega
  simp only [e1]
  have e2 : Toward.even.cut false ((n * 2 ^ k) <<< (-(k : Int) - ((n.log2 : Int) - 52)).toNat) ((n.log2 : Int) - 52 - -(k : Int)).toNat = n * 2 ^ (52 - n.log2) := by
    by_cases c : k ≤ 52 - n.log2
    · have a1 : (-(k : Int) - ((n.log2 : Int) - 52)).toNat = 52 - n.log2 - k := by omega
      have a2 : ((n.log2 : Int) - 52 - -(k : Int)).toNat = 0 := by omega
      rw [a1, a2, cut0, Nat.shiftLeft_eq, Nat.mul_assoc, ← Nat.pow_add]
      congr 2; omega
    · have a1 : (-(k : Int) - ((n.log2 : Int) - 52)).toNat = 0 := by omega
      have a2 : ((n.log2 : Int) - 52 - -(k : Int)).toNat = k - (52 - n.log2) := by omega
      rw [a1, a2, Nat.shiftLeft_zero]
      have e : n * 2 ^ k = n * 2 ^ (52 - n.log2) * 2 ^ (k - (52 - n.log2)) := by rw [Nat.mul_assoc, ← Nat.pow_add]; congr 2; omega
      rw [e]
      apply cut_exact
      rw [← e, log2_mul n k h0]; omega
  rw [e2]
  have e3 : ((n.log2 : Int) - 52 - -1074).toNat = n.log2 + 1022 := by omega
  have e4 : Ieee.double.binade = 2 ^ 52 := rfl
  have e5 : Ieee.double.infRung = 2047 * 2 ^ 52 := by decide
  rw [e3, e4, e5]
  unfold Format.word
  simp only [Bool.false_eq_true, if_false]
  apply Nat.min_eq_left
  omega
theorem nearest_zero (p : Int) : Ieee.double.nearest false 0 p = 0 := by
  unfold Format.nearest Format.word; simp
/-- Every way to tell a whole number below 2^53 is written alike. -/
theorem write_rep (n : Nat) (h : n < 2 ^ 53) (k : Nat) : Ieee.double.write (.number false (n * 2 ^ k) (-(k : Int))) = fl n := by
  unfold fl Format.write
  by_cases h0 : n = 0
  · subst h0; simp only [Nat.zero_mul, nearest_zero]
  · have a := nearest_rep n h0 h k
    have b := nearest_rep n h0 h 0
    simp only [Nat.pow_zero, Nat.mul_one, Int.natCast_zero, Int.neg_zero] at b
    simp only [a, b]
theorem read_rep (n : Nat) (h : n < 2 ^ 53) : ∃ k : Nat, Ieee.double.read (fl n) = .number false (n * 2 ^ k) (-(k : Int)) := by
  by_cases h0 : n = 0
  · subst h0
    obtain ⟨k, hk⟩ : ∃ k : Nat, (-1074 : Int) = -(k : Int) := ⟨1074, rfl⟩
    refine ⟨k, ?_⟩
    have : fl 0 = 0 := nearest_zero 0
    rw [this, Nat.zero_mul, ← hk]
    unfold Format.read
    have e1 : 0 / Ieee.double.signWeight % 2 = 0 := by simp
    have e2 : 0 % Ieee.double.signWeight = 0 := by simp
    have e3 : 0 < Ieee.double.binade := by decide
    simp only [e1, e2, if_pos e3, leastPlace_eq]
    rfl
  · have hL := log2_le h
    refine ⟨52 - n.log2, ?_⟩
    have b := nearest_rep n h0 h 0
    simp only [Nat.pow_zero, Nat.mul_one, Int.natCast_zero, Int.neg_zero] at b
    have e : fl n = (n.log2 + 1022) * 2 ^ 52 + n * 2 ^ (52 - n.log2) := b
    have hb : n * 2 ^ (52 - n.log2) < 2 ^ 53 := by
      calc n * 2 ^ (52 - n.log2) < 2 ^ (n.log2 + 1) * 2 ^ (52 - n.log2) := Nat.mul_lt_mul_of_pos_right Nat.lt_log2_self (Nat.two_pow_pos _)
        _ = 2 ^ 53 := by rw [← Nat.pow_add]; congr 1; omega
    have ha : 2 ^ 52 ≤ n * 2 ^ (52 - n.log2) := by
      calc 2 ^ 52 = 2 ^ n.log2 * 2 ^ (52 - n.log2) := by rw [← Nat.pow_add]; congr 1; omega
        _ ≤ n * 2 ^ (52 - n.log2) := Nat.mul_le_mul_right _ (Nat.log2_self_le h0)
    generalize hm : n * 2 ^ (52 - n.log2) = m at *
    generalize n.log2 = L at *
    rw [e]
    unfold Format.read
    have e4 : Ieee.double.binade = 2 ^ 52 := rfl
    have e5 : Ieee.double.infRung = 2047 * 2 ^ 52 := by decide
    have e6 : Ieee.double.signWeight = 2048 * 2 ^ 52 := by decide
    rw [e4, e5, e6, leastPlace_eq]
    have f1 : ((L + 1022) * 2 ^ 52 + m) / (2048 * 2 ^ 52) % 2 = 0 := by omega
    have f2 : ((L + 1022) * 2 ^ 52 + m) % (2048 * 2 ^ 52) = (L + 1022) * 2 ^ 52 + m := by omega
    have f3 : ((L + 1022) * 2 ^ 52 + m) % 2 ^ 52 = m - 2 ^ 52 := by omega
    have f4 : ((L + 1022) * 2 ^ 52 + m) / 2 ^ 52 = L + 1023 := by omega
    simp only [f1, f2, f3, f4]
    rw [if_neg (by omega), if_pos (by omega)]
    have f5 : 2 ^ 52 + (m - 2 ^ 52) = m := by omega
    have f6 : (-1074 + ((L + 1023 - 1 : Nat) : Int)) = -((52 - L : Nat) : Int) := by omega
    rw [f5, f6]
    rfl
theorem signed_pos (m up : Nat) : signed false m up = ((m * 2 ^ up : Nat) : Int) := by
  unfold signed; simp [Nat.shiftLeft_eq]
theorem add_fl (a b : Nat) (h : a + b < 2 ^ 53) : Ieee.double.add (fl a) (fl b) = some (fl (a + b)) := by
  obtain ⟨i, hi⟩ := read_rep a (by omega)
  obtain ⟨j, hj⟩ := read_rep b (by omega)
  unfold Format.add
  rw [hi, hj]
  simp only [Datum.sum, Option.map_some, Option.some.injEq, signed_pos]
  have key : ∀ i j m : Nat, i ≤ m → j ≤ m → (a * 2 ^ i * 2 ^ (m - i) + b * 2 ^ j * 2 ^ (m - j)) = (a + b) * 2 ^ m := by
    intro i j m h1 h2
    rw [Nat.mul_assoc, Nat.mul_assoc, ← Nat.pow_add, ← Nat.pow_add, show i + (m - i) = m by omega, show j + (m - j) = m by omega, Nat.add_mul]
  have e1 : min (-(i : Int)) (-(j : Int)) = -((max i j : Nat) : Int) := by omega
  rw [e1]
  have e2 : (-(i : Int) - -((max i j : Nat) : Int)).toNat = max i j - i := by omega
  have e3 : (-(j : Int) - -((max i j : Nat) : Int)).toNat = max i j - j := by omega
  rw [e2, e3, ← Int.natCast_add, key i j (max i j) (by omega) (by omega)]
  have e4 : (if (((a + b) * 2 ^ max i j : Nat) : Int) = 0 then (false && false) else decide ((((a + b) * 2 ^ max i j : Nat) : Int) < 0)) = false := by
    split
    · rfl
    · exact decide_eq_false (by omega)
  rw [e4, Int.natAbs_natCast]
  exact write_rep (a + b) h _
theorem order_fl (a b : Nat) (ha : a < 2 ^ 53) (hb : b < 2 ^ 53) : Ieee.double.order (fl a) (fl b) = some (compare a b) := by
  obtain ⟨i, hi⟩ := read_rep a ha
  obtain ⟨j, hj⟩ := read_rep b hb
  unfold Format.order
  rw [hi, hj]
  simp only [Datum.order, Option.some.injEq, signed_pos]
  have e1 : min (-(i : Int)) (-(j : Int)) = -((max i j : Nat) : Int) := by omega
  rw [e1]
  have e2 : (-(i : Int) - -((max i j : Nat) : Int)).toNat = max i j - i := by omega
  have e3 : (-(j : Int) - -((max i j : Nat) : Int)).toNat = max i j - j := by omega
  rw [e2, e3, Nat.mul_assoc, Nat.mul_assoc, ← Nat.pow_add, ← Nat.pow_add, show i + (max i j - i) = max i j by omega, show j + (max i j - j) = max i j by omega]
  have hp := Nat.two_pow_pos (max i j)
  generalize 2 ^ max i j = p at *
  rcases Nat.lt_trichotomy a b with c | c | c
  · have : a * p < b * p := Nat.mul_lt_mul_of_pos_right c hp
    rw [Nat.compare_eq_lt.2 c, Int.compare_eq_lt.2 (by omega)]
  · subst c; rw [Nat.compare_eq_eq.2 rfl, Int.compare_eq_eq.2 rfl]
  · have : b * p < a * p := Nat.mul_lt_mul_of_pos_right c hp
    rw [Nat.compare_eq_gt.2 c, Int.compare_eq_gt.2 (by omega)]
theorem toInt_fl (a : Nat) (ha : a < 2 ^ 53) : (FloatKind.f64.decode (fl a)).toInt .zero = some (a : Int) := by
  obtain ⟨i, hi⟩ := read_rep a ha
  have : FloatKind.f64.decode (fl a) = .number false (a * 2 ^ i) (-(i : Int)) := hi
  rw [this]
  simp only [Datum.toInt, Datum.integral]
  have e1 : (-(i : Int)).toNat = 0 := by omega
  have e2 : (- -(i : Int)).toNat = i := by omega
  rw [e1, e2, Nat.shiftLeft_zero]
  have hc : Toward.zero.cut false (a * 2 ^ i) i = a := by
    unfold Toward.cut
    by_cases h0 : a = 0
    · subst h0; simp
    · have hl : i ≤ (a * 2 ^ i).log2 + 2 := by rw [log2_mul a i h0]; omega
      dsimp only
      rw [Nat.min_eq_left hl, Nat.one_shiftLeft, Nat.mul_div_cancel _ (Nat.two_pow_pos i)]
      simp
  rw [hc]
  simp [signed]
theorem nearest_fl (n : Nat) : FloatKind.f64.nearest (n : Int) = fl n := by
  have : decide ((n : Int) < 0) = false := decide_eq_false (by omega)
  simp [FloatKind.nearest, FloatKind.encode, FloatKind.format, fl, this]
theorem fl_inj {a b : Nat} (ha : a < 2 ^ 53) (hb : b < 2 ^ 53) (h : fl a = fl b) : a = b := by
  have h1 := toInt_fl a ha
  have h2 := toInt_fl b hb
  rw [h, h2] at h1
  have := Option.some.inj h1
  omega
theorem fl_one : fl 1 = 4607182418800017408 := by decide +kernel
theorem fl_two : fl 2 = 4611686018427387904 := by decide +kernel
theorem fl_zero : fl 0 = 0 := nearest_zero 0
end Go.Proofs.Ytcoefbgnajaklaa.Fl
