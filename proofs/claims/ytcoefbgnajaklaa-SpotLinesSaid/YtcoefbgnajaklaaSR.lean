/- The contracts of the document's answer of chapter 3. Conditions: as those of spot. -/
import Derived.Test.YtcoefbgnajaklaaSP
import Derived.Test.YtcoefbgnajaklaaFl
import Derived.Lib.Hide
import Derived.Lib.ConvBytes
import Derived.Laws.ComplexArith
import Derived.Laws.FloatArith
import Derived.Laws.Cover2
import Derived.Laws.Cover3
namespace Go.Proofs.Ytcoefbgnajaklaa.LinkUtfTells
open Go Go.RowKit Go.Proofs.Ytcoefbgnajaklaa Go.Proofs.Ytcoefbgnajaklaa.PUtfTells Go.Proofs.YtcoefbgnajaklaaW.PrintWords Go.Proofs.YtcoefbgnajaklaaW.PrintLast Go.Proofs.YtcoefbgnajaklaaW.PrintMore Go.Proofs.Ytcoefbgnajaklaa.Utf Go.Lib Go.Proofs.Ytcoefbgnajaklaa.Fl
set_option linter.unusedVariables false
set_option linter.unusedSimpArgs false
set_option maxRecDepth 100000
theorem rdecode_c (A : Option Addr) (c : Nat) (xs : List Int) (w : World) (hC : Kd.C (Kd.int .u8) w A xs.length xs) (hc : xs.length ≤ c) (hb : Byt xs) (hl : xs.length ≤ 1000000) :
    Calls Try.prog 35 #[.slice A xs.length c] w fun e w' => ∃ v, e = .returned v ∧ Kd.R (Kd.int .i32) 21 w' w.heap.size (fun _ => True) v (uDec xs) ∧ Below w.heap.size w w' :=
  gossamerref1_Decode.calls (xs.length + 9) A c xs _ w hC hc (rdecode_ok xs hb (by omega) _ (by omega))
theorem number_c (a b : Nat) (w : World) :
    Calls Try.prog 19 #[.int .i64 a, .int .i64 b] w fun e w' => e = .returned (cx a b) ∧ w = w' := by
  have n1 : floatOfInt .f64 (a : Int) = fl a := nearest_fl a
  have n2 : floatOfInt .f64 (b : Int) = fl b := nearest_fl b
  go_enter Try.func19, Try.ntmps19
  go_wp2
  go_ret
  exact ⟨by simp [cx], rfl⟩
theorem floatToInt_fl (a : Nat) (h : a < 2 ^ 53) : floatToIntVal .f64 (fl a) .i64 = some (a : Int) := by
  unfold floatToIntVal
  rw [toInt_fl a h]
  have e1 : IntKind.i64.min = -9223372036854775808 := by decide
  have e2 : IntKind.i64.max = 9223372036854775807 := by decide
  simp only [e1, e2]
  rw [if_pos (by omega)]
theorem line_c (a b : Nat) (h : a < 2 ^ 53) (w : World) :
    Calls Try.prog 20 #[cx a b] w fun e w' => e = .returned (.int .i64 a) ∧ w = w' := by
  have ui : (Try.prog.underlying 34).isSome = true := by kernel_rfl
  have k1 := fun w => run_convert_float_int (P := Try.prog) w 34 3 .f64 .i64 (fl a) (a : Int) ui Try.underlying3 (floatToInt_fl a h)
  go_enter Try.func20, Try.ntmps20
  go_wp2
  go_ret
  exact ⟨by simp, rfl⟩
theorem column_c (a b : Nat) (h : b < 2 ^ 53) (w : World) :
    Calls Try.prog 21 #[cx a b] w fun e w' => e = .returned (.int .i64 b) ∧ w = w' := by
  have ui : (Try.prog.underlying 34).isSome = true := by kernel_rfl
  have k1 := fun w => run_convert_float_int (P := Try.prog) w 34 3 .f64 .i64 (fl b) (b : Int) ui Try.underlying3 (floatToInt_fl b h)
  go_enter Try.func21, Try.ntmps21
  go_wp2
  go_ret
  exact ⟨by simp, rfl⟩
set_option maxHeartbeats 1000000 in
theorem rbehind_c (a b : Nat) (s : ByteArray) (w : World) (ha : a ≤ 600000000000) (hb1 : 1 ≤ b) (hb : b ≤ 600000000000) (hs : s.size ≤ 1000000) :
    Calls Try.prog 25 #[.int .i64 a, .int .i64 b, .string s] w fun e w' => e = .returned (.tuple #[.int .i64 (sp (uDec (bs s)) (a, b)).1, .int .i64 (sp (uDec (bs s)) (a, b)).2]) ∧ Below w.heap.size w w' := by
  have kc := fun (w : World) (s : ByteArray) => print_bytes (P := Try.prog) 9 37 5 Try.underlying9 Try.underlying37 Try.underlying5 s w
  have ld := decode_len _ (bs s) (Nat.le_refl _)
  have hbb := bs_byt s
  have hl := bs_len s
  have hC := bs_C w s (by omega)
  have hB := bs_below w s
  rw [hl] at ld
  generalize hds : uDec (bs s) = ds at ld ⊢
  have hds := Lib.hid hds
  go_enter Try.func25, Try.ntmps25
  go_wp2_with fail
  have k1 := rdecode_c (some ⟨w.heap.size, 0, none⟩) (grownCap w s.size 0 5) (bs s) (bytesWorld w 5 s) hC (by rw [hl]; exact grownCap_ge _ _ _ _) hbb (by omega)
  rw [hl, hds.out] at k1
  refine k1.mono ?_
  clear k1
  rintro e w1 ⟨v1, rfl, ho1, hb1'⟩
  obtain ⟨A1, c1, rfl, hl1, hd1⟩ := Kd.R_reads ho1
  have hB1 := below_step hB hb1'
  clear ho1 hb1' hC hB hl hbb
  go_wp2_with fail
  go_loop [0, 1, 9] (fun p q i => ∃ k : Nat, k ≤ ds.length ∧ i = .int .i64 k ∧ p = .int .i64 (sp (ds.take k) (a, b)).1 ∧ q = .int .i64 (sp (ds.take k) (a, b)).2) (fun _ _ i => ds.length - (intOf i).toNat)
  case atStart => exact ⟨0, Nat.zero_le _, rfl, rfl, rfl⟩
  case round =>
    obtain ⟨k, hk, rfl, rfl, rfl⟩ := hrel
    by_cases hlt : k < ds.length
    · have hle := sp_le (ds.take k) (a, b) hb1
      rw [List.length_take, Nat.min_eq_left hk] at hle
      have hsn := sp_snoc (ds.take k) (rd ds (k : Int)) (a, b)
      rw [← take_snoc ds k hlt] at hsn
      obtain ⟨ad, hA, hcell⟩ := Kd.at_int hd1 (k : Int) (by omega) (by omega)
      rw [Int.toNat_natCast] at hcell
      cases hA
      generalize rd ds (k : Int) = r at *
      generalize sp (ds.take k) (a, b) = q at *
      obtain ⟨q1, q2⟩ := q
      simp only at hle
      have dlt : decide ((k : Int) < (ds.length : Int)) = true := decide_eq_true (by omega)
      by_cases c : r = 10
      · subst c
        rw [if_pos rfl] at hsn
        have hsn := Lib.hid hsn
        go_wp2
        exact ⟨⟨k + 1, by omega, by go_num, by rw [hsn.out]; go_num, by rw [hsn.out]; rfl⟩, by simp [intOf]; omega⟩
      · rw [if_neg c] at hsn
        have hsn := Lib.hid hsn
        have c := beq_eq_false_iff_ne.2 c
        go_wp2
        exact ⟨⟨k + 1, by omega, by go_num, by rw [hsn.out], by rw [hsn.out]; go_num⟩, by simp [intOf]; omega⟩
    · obtain rfl : k = ds.length := by omega
      rw [List.take_length]
      go_wp2
      go_ret2
      exact ⟨by simp, hB1⟩
set_option maxHeartbeats 1000000 in
theorem rat_c (s : ByteArray) (n : Int) (w : World) (hs : s.size ≤ 1000000) :
    Calls Try.prog 16 #[.string s, .int .i64 n] w fun e w' => e = .returned (.tuple #[.int .i64 (sp (uDec ((bs s).take n.toNat)) (1, 1)).1, .int .i64 (sp (uDec ((bs s).take n.toNat)) (1, 1)).2]) ∧ Below w.heap.size w w' := by
  by_cases c1 : n ≤ 0
  · have k1 := rbehind_c 1 1 ByteArray.empty w (by omega) (by omega) (by omega) (by simp)
    rw [bs_empty] at k1
    rw [show n.toNat = 0 by omega, List.take_zero]
    have k1 := Lib.hid k1
    go_enter Try.func16, Try.ntmps16
    go_wp2_with fail
    all_goals
      refine k1.out.mono ?_
      rintro e w1 ⟨rfl, hb⟩
      go_wp2
      go_ret2
      exact ⟨by simp, hb⟩
  · by_cases c2 : n ≤ (s.size : Int)
    · have k1 := rbehind_c 1 1 (s.extract 0 n.toNat) w (by omega) (by omega) (by omega) (by have := extract_size s n.toNat; omega)
      rw [bs_extract] at k1
      have k1 := Lib.hid k1
      go_enter Try.func16, Try.ntmps16
      go_wp2_with fail
      refine k1.out.mono ?_
      rintro e w1 ⟨rfl, hb⟩
      go_wp2
      go_ret2
      exact ⟨by simp, hb⟩
    · by_cases c3 : s.size = 0
      · obtain rfl : s = ByteArray.empty := by
          obtain ⟨a⟩ := s
          have : a = #[] := Array.eq_empty_of_size_eq_zero c3
          rw [this]; rfl
        have k1 := rbehind_c 1 1 ByteArray.empty w (by omega) (by omega) (by omega) (by simp)
        rw [bs_take _ n.toNat (by simp)]
        have k1 := Lib.hid k1
        go_enter Try.func16, Try.ntmps16
        go_wp2_with fail
        refine k1.out.mono ?_
        rintro e w1 ⟨rfl, hb⟩
        go_wp2
        go_ret2
        exact ⟨by simp, hb⟩
      have c3 : 0 < s.size := by omega
      have k1 := rbehind_c 1 1 s w (by omega) (by omega) (by omega) hs
      rw [bs_take s n.toNat (by omega)]
      have k1 := Lib.hid k1
      go_enter Try.func16, Try.ntmps16
      go_wp2_with fail
      refine k1.out.mono ?_
      rintro e w1 ⟨rfl, hb⟩
      go_wp2
      go_ret2
      exact ⟨by simp, hb⟩

end Go.Proofs.Ytcoefbgnajaklaa.LinkUtfTells
