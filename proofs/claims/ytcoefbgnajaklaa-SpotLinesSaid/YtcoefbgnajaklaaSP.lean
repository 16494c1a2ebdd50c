/- The contracts of spot: places as pairs of floats that tell whole numbers. Conditions: texts of at most 1000000 bytes, places of small numbers. -/
import Derived.Test.YtcoefbgnajaklaaAUtfTells
import Derived.Test.YtcoefbgnajaklaaFl
import Derived.Lib.Hide
import Derived.Lib.ConvBytes
import Derived.Laws.ComplexArith
import Derived.Laws.FloatArith
import Derived.Laws.Cover2
import Derived.Laws.Cover3
namespace Go.Proofs.Ytcoefbgnajaklaa.LinkUtfTells
open Go Go.RowKit Go.Proofs.Ytcoefbgnajaklaa Go.Proofs.Ytcoefbgnajaklaa.PUtfTells Go.Proofs.YtcoefbgnajaklaaW.PrintWords Go.Proofs.YtcoefbgnajaklaaW.PrintLast Go.Proofs.YtcoefbgnajaklaaW.PrintMore Go.Proofs.Ytcoefbgnajaklaa.Utf Go.Lib Go.Proofs.Ytcoefbgnajaklaa.Fl
set_option linter.unusedVariables false
set_option linter.unusedSimpArgs false
set_option maxRecDepth 100000
theorem rvalid_c (A : Option Addr) (c : Nat) (xs : List Int) (w : World) (hC : Kd.C (Kd.int .u8) w A xs.length xs) (hc : xs.length ≤ c) (hb : Byt xs) (hl : xs.length ≤ 1000000) :
    Calls Try.prog 23 #[.slice A xs.length c] w fun e w' => e = .returned (.bool (uValid xs)) ∧ Below w.heap.size w w' :=
  (gossamerref1_Valid.calls (xs.length + 9) A c xs _ w hC hc (rvalid_ok xs hb (by omega) _ (by omega))).mono fun e w' h => ⟨h.1, h.2.below⟩
theorem runes_c (A A' : Option Addr) (c c' : Nat) (xs ys : List Int) (w : World) (hC : Kd.C (Kd.int .i32) w A xs.length xs) (hc : xs.length ≤ c) (hC' : Kd.C (Kd.int .i32) w A' ys.length ys) (hc' : ys.length ≤ c') (hl : xs.length ≤ 1000000) :
    Calls Try.prog 33 #[.slice A xs.length c, .slice A' ys.length c'] w fun e w' => e = .returned (.bool (decide (xs = ys))) ∧ Below w.heap.size w w' :=
  (gossamerlaw0_Runes.calls (xs.length + 1) A c xs A' c' ys _ w hC hc hC' hc' (runes_ok xs ys (by omega) _ (by omega))).mono fun e w' h => ⟨h.1, h.2.below⟩

/-- A string's bytes, as numbers. -/
abbrev bs (s : ByteArray) : List Int := Go.Proofs.YtcoefbgnajaklaaW.PrintWords.bytesOf s
theorem bs_len (s : ByteArray) : (bs s).length = s.size :=
  Go.Proofs.YtcoefbgnajaklaaW.PrintWords.bytesOf_length s
theorem bs_byt (s : ByteArray) : Byt (bs s) := by
  intro x hx
  simp only [bs, Go.Proofs.YtcoefbgnajaklaaW.PrintWords.bytesOf, List.mem_map] at hx
  obtain ⟨c, -, rfl⟩ := hx
  have := c.toNat_lt
  omega
theorem bs_C (w : World) (s : ByteArray) (hs : s.size ≤ 140737488351232) : (Kd.int .u8).C (bytesWorld w 5 s) (some ⟨w.heap.size, 0, none⟩) (bs s).length (bs s) := by
  rw [bs_len]
  exact Kd.C_of_reads (d := (0 : Int)) (h1 := fun _ => rfl) (bytes_reads w 5 s (by omega))
theorem bs_below (w : World) (s : ByteArray) : Below w.heap.size w (bytesWorld w 5 s) := bytes_below (Below.refl _ _) (Nat.le_refl _) _ _
theorem bs_dec (s : ByteArray) : (uDec (bs s)).length ≤ s.size := by have := decode_len _ (bs s) (Nat.le_refl _); rw [bs_len] at this; exact this

/-- Where one is behind code points: line, column. -/
def sp (rs : List Int) (p : Nat × Nat) : Nat × Nat := rs.foldl (fun p r => if r = 10 then (p.1 + 1, 1) else (p.1, p.2 + 1)) p
theorem sp_nil (p : Nat × Nat) : sp [] p = p := rfl
theorem sp_snoc (rs : List Int) (r : Int) (p : Nat × Nat) : sp (rs ++ [r]) p = if r = 10 then ((sp rs p).1 + 1, 1) else ((sp rs p).1, (sp rs p).2 + 1) := by
  simp [sp]
theorem sp_append (a b : List Int) (p : Nat × Nat) : sp (a ++ b) p = sp b (sp a p) := by simp [sp]
theorem sp_le : ∀ (rs : List Int) (p : Nat × Nat), 1 ≤ p.2 → (sp rs p).1 ≤ p.1 + rs.length ∧ (sp rs p).2 ≤ p.2 + rs.length ∧ 1 ≤ (sp rs p).2 ∧ p.1 ≤ (sp rs p).1
  | [], p, h => by simp [sp, h]
  | r :: rs, p, h => by
    have e : sp (r :: rs) p = sp rs (if r = 10 then (p.1 + 1, 1) else (p.1, p.2 + 1)) := rfl
    rw [e]
    by_cases c : r = 10
    · rw [if_pos c]
      have := sp_le rs (p.1 + 1, 1) (by simp)
      simp only [List.length_cons] at *
      omega
    · rw [if_neg c]
      have := sp_le rs (p.1, p.2 + 1) (by simp)
      simp only [List.length_cons] at *
      omega
theorem take_snoc (rs : List Int) (k : Nat) (h : k < rs.length) : rs.take (k + 1) = rs.take k ++ [rd rs (k : Int)] := by
  rw [List.take_succ_eq_append_getElem h]; congr 2; unfold rd; simp [h]
/-- A place as a number of two parts. -/
abbrev cx (a b : Nat) : Value := .complex .f64 (fl a) (fl b)
theorem add_cx (t : TypeId) (a b c d : Nat) (h1 : a + c < 2 ^ 53) (h2 : b + d < 2 ^ 53) (w : World) : (binOp .add t (cx a b) (cx c d)).run Try.prog w = .ok (cx (a + c) (b + d)) w := by
  refine run_complex_sum (P := Try.prog) w .add (.inl rfl) t .f64 _ _ _ _ _ _ ?_
  unfold cSumBits floatBits
  have e1 := add_fl a c h1
  have e2 := add_fl b d h2
  have f : FloatKind.f64.format = Ieee.double := rfl
  simp only [f, e1, e2, Option.bind_some]
theorem add_fx (t : TypeId) (a c : Nat) (h1 : a + c < 2 ^ 53) (w : World) : (binOp .add t (.float .f64 (fl a)) (.float .f64 (fl c))).run Try.prog w = .ok (.float .f64 (fl (a + c))) w := by
  have e1 := add_fl a c h1
  have f : FloatKind.f64.format = Ieee.double := rfl
  have := run_floatArith (P := Try.prog) w (op := .add) (k := .f64) (x := fl a) (y := fl c) (r := fl (a + c)) (by unfold floatBits; rw [f]; exact e1)
  simpa [binOp] using this
theorem fl_big (n : Nat) (h : n = 140737488351232 ∨ n ≤ 1099511628776) : n < 2 ^ 53 := by omega

set_option maxHeartbeats 1000000 in
theorem behind_c (a b : Nat) (s : ByteArray) (w : World) (ha : a ≤ 600000000000) (hb1 : 1 ≤ b) (hb : b ≤ 600000000000) (hs : s.size ≤ 1000000) :
    Calls Try.prog 26 #[cx a b, .string s] w fun e w' => e = .returned (cx (sp (uDec (bs s)) (a, b)).1 (sp (uDec (bs s)) (a, b)).2) ∧ Below w.heap.size w w' := by
  have kc := fun (w : World) (s : ByteArray) => print_bytes (P := Try.prog) 9 37 5 Try.underlying9 Try.underlying37 Try.underlying5 s w
  have ld := decode_len _ (bs s) (Nat.le_refl _)
  have hbb := bs_byt s
  have hl := bs_len s
  have hC := bs_C w s (by omega)
  have hB := bs_below w s
  rw [hl] at ld
  generalize hds : uDec (bs s) = ds at ld ⊢
  have hds := Lib.hid hds
  go_enter Try.func26, Try.ntmps26
  go_wp2_with fail
  have k1 := decode_c (some ⟨w.heap.size, 0, none⟩) (grownCap w s.size 0 5) (bs s) (bytesWorld w 5 s) hC (by rw [hl]; exact grownCap_ge _ _ _ _) hbb (by omega)
  rw [hl, hds.out] at k1
  refine k1.mono ?_
  clear k1
  rintro e w1 ⟨v1, rfl, ho1, hb1'⟩
  obtain ⟨A1, c1, rfl, hl1, hd1⟩ := Kd.R_reads ho1
  have hB1 := below_step hB hb1'
  clear ho1 hb1' hC hB hl hbb
  go_wp2_with fail
  go_loop [0, 6, 11] (fun p _ i => ∃ k : Nat, k ≤ ds.length ∧ i = .int .i64 k ∧ p = cx (sp (ds.take k) (a, b)).1 (sp (ds.take k) (a, b)).2) (fun _ _ i => ds.length - (intOf i).toNat)
  case atStart => exact ⟨0, Nat.zero_le _, rfl, rfl⟩
  case round =>
    obtain ⟨k, hk, rfl, rfl⟩ := hrel
    by_cases hlt : k < ds.length
    · have hle := sp_le (ds.take k) (a, b) hb1
      rw [List.length_take, Nat.min_eq_left hk] at hle
      have hsn := sp_snoc (ds.take k) (rd ds (k : Int)) (a, b)
      rw [← take_snoc ds k hlt] at hsn
      obtain ⟨ad, hA, hcell⟩ := Kd.at_int hd1 (k : Int) (by omega) (by omega)
      rw [Int.toNat_natCast] at hcell
      cases hA
      generalize rd ds (k : Int) = r at *
      generalize sp (ds.take k) (a, b) = q at *
      obtain ⟨q1, q2⟩ := q
      simp only at hle
      have dlt : decide ((k : Int) < (ds.length : Int)) = true := decide_eq_true (by omega)
      have s1 := fun w => add_cx 26 q1 q2 0 1 (by omega) (by omega) w
      rw [Nat.add_zero] at s1
      have s2 := fun w => add_fx 34 q1 1 (by omega) w
      simp only [cx, fl_zero, fl_one] at s1 s2
      by_cases c : r = 10
      · subst c
        rw [if_pos rfl] at hsn
        have hsn := Lib.hid hsn
        go_wp2
        exact ⟨⟨k + 1, by omega, by go_num, by rw [hsn.out]; simp only [cx, fl_one]⟩, by simp [intOf]; omega⟩
      · rw [if_neg c] at hsn
        have hsn := Lib.hid hsn
        have c := beq_eq_false_iff_ne.2 c
        go_wp2
        exact ⟨⟨k + 1, by omega, by go_num, by rw [hsn.out]⟩, by simp [intOf]; omega⟩
    · obtain rfl : k = ds.length := by omega
      rw [List.take_length]
      go_wp2
      go_ret
      exact ⟨by simp, hB1⟩
theorem wide_c (r : Int) (w : World) :
    Calls Try.prog 39 #[.int .i32 r] w fun e w' => e = .returned (cx 1 (if 65535 < r then 2 else 1)) ∧ w = w' := by
  by_cases c : 65535 < r
  · have d : decide (65535 < r) = true := decide_eq_true c
    go_enter Try.func39, Try.ntmps39
    go_wp2
    go_ret
    exact ⟨by simp [cx, fl_one, fl_two], rfl⟩
  · have d : decide (65535 < r) = false := decide_eq_false c
    go_enter Try.func39, Try.ntmps39
    go_wp2
    go_ret
    exact ⟨by simp [cx, fl_one], rfl⟩
theorem bs_extract (s : ByteArray) (m : Nat) : bs (s.extract 0 m) = (bs s).take m := by
  unfold bs Go.Proofs.YtcoefbgnajaklaaW.PrintWords.bytesOf
  rw [ByteArray.data_extract]
  simp
theorem extract_size (s : ByteArray) (m : Nat) : (s.extract 0 m).size ≤ s.size := by
  simp [ByteArray.size_extract]; omega
theorem bs_take (s : ByteArray) (m : Nat) (h : s.size ≤ m) : (bs s).take m = bs s := List.take_of_length_le (by rw [bs_len]; exact h)
theorem bs_empty : bs ByteArray.empty = [] := rfl
set_option maxHeartbeats 1000000 in
theorem at_c (s : ByteArray) (n : Int) (w : World) (hs : s.size ≤ 1000000) :
    Calls Try.prog 17 #[.string s, .int .i64 n] w fun e w' => e = .returned (cx (sp (uDec ((bs s).take n.toNat)) (1, 1)).1 (sp (uDec ((bs s).take n.toNat)) (1, 1)).2) ∧ Below w.heap.size w w' := by
  by_cases c1 : n ≤ 0
  · have k1 := behind_c 1 1 ByteArray.empty w (by omega) (by omega) (by omega) (by simp)
    rw [bs_empty] at k1
    simp only [cx, fl_one] at k1
    rw [show n.toNat = 0 by omega, List.take_zero]
    have k1 := Lib.hid k1
    go_enter Try.func17, Try.ntmps17
    go_wp2_with fail
    all_goals
      refine k1.out.mono ?_
      rintro e w1 ⟨rfl, hb⟩
      go_wp2
      go_ret
      exact ⟨by simp, hb⟩
  · by_cases c2 : n ≤ (s.size : Int)
    · have k1 := behind_c 1 1 (s.extract 0 n.toNat) w (by omega) (by omega) (by omega) (by have := extract_size s n.toNat; omega)
      rw [bs_extract] at k1
      simp only [cx, fl_one] at k1
      have k1 := Lib.hid k1
      go_enter Try.func17, Try.ntmps17
      go_wp2_with fail
      refine k1.out.mono ?_
      rintro e w1 ⟨rfl, hb⟩
      go_wp2
      go_ret
      exact ⟨by simp, hb⟩
    · by_cases c3 : s.size = 0
      · obtain rfl : s = ByteArray.empty := by
          obtain ⟨a⟩ := s
          have : a = #[] := Array.eq_empty_of_size_eq_zero c3
          rw [this]; rfl
        have k1 := behind_c 1 1 ByteArray.empty w (by omega) (by omega) (by omega) (by simp)
        simp only [cx, fl_one] at k1
        rw [bs_take _ n.toNat (by simp)]
        have k1 := Lib.hid k1
        go_enter Try.func17, Try.ntmps17
        go_wp2_with fail
        refine k1.out.mono ?_
        rintro e w1 ⟨rfl, hb⟩
        go_wp2
        go_ret
        exact ⟨by simp, hb⟩
      have c3 : 0 < s.size := by omega
      have k1 := behind_c 1 1 s w (by omega) (by omega) (by omega) hs
      simp only [cx, fl_one] at k1
      rw [bs_take s n.toNat (by omega)]
      have k1 := Lib.hid k1
      go_enter Try.func17, Try.ntmps17
      go_wp2_with fail
      refine k1.out.mono ?_
      rintro e w1 ⟨rfl, hb⟩
      go_wp2
      go_ret
      exact ⟨by simp, hb⟩

end Go.Proofs.Ytcoefbgnajaklaa.LinkUtfTells
