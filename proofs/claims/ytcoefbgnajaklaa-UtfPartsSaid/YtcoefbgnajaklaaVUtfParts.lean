/- Contracts of the calls, and the walk of the law UtfParts. Conditions: bytes, as many as the law lets in. -/
import Derived.Test.YtcoefbgnajaklaaAUtfTells
import Derived.Lib.Hide
namespace Go.Proofs.Ytcoefbgnajaklaa.LinkUtfTells
open Go Go.RowKit Go.Proofs.Ytcoefbgnajaklaa Go.Proofs.Ytcoefbgnajaklaa.PUtfTells Go.Proofs.YtcoefbgnajaklaaW.PrintWords Go.Proofs.YtcoefbgnajaklaaW.PrintLast Go.Proofs.YtcoefbgnajaklaaW.PrintMore Go.Proofs.Ytcoefbgnajaklaa.Utf Go.Lib
set_option linter.unusedVariables false
set_option linter.unusedSimpArgs false
set_option maxRecDepth 100000
theorem rvalid_c (A : Option Addr) (c : Nat) (xs : List Int) (w : World) (hC : Kd.C (Kd.int .u8) w A xs.length xs) (hc : xs.length ≤ c) (hb : Byt xs) (hl : xs.length ≤ 1000000) :
    Calls Try.prog 23 #[.slice A xs.length c] w fun e w' => e = .returned (.bool (uValid xs)) ∧ Below w.heap.size w w' :=
  (gossamerref1_Valid.calls (xs.length + 9) A c xs _ w hC hc (rvalid_ok xs hb (by omega) _ (by omega))).mono fun e w' h => ⟨h.1, h.2.below⟩
theorem runes_c (A A' : Option Addr) (c c' : Nat) (xs ys : List Int) (w : World) (hC : Kd.C (Kd.int .i32) w A xs.length xs) (hc : xs.length ≤ c) (hC' : Kd.C (Kd.int .i32) w A' ys.length ys) (hc' : ys.length ≤ c') (hl : xs.length ≤ 1000000) :
    Calls Try.prog 33 #[.slice A xs.length c, .slice A' ys.length c'] w fun e w' => e = .returned (.bool (decide (xs = ys))) ∧ Below w.heap.size w w' :=
  (gossamerlaw0_Runes.calls (xs.length + 1) A c xs A' c' ys _ w hC hc hC' hc' (runes_ok xs ys (by omega) _ (by omega))).mono fun e w' h => ⟨h.1, h.2.below⟩

set_option maxHeartbeats 1000000 in
theorem parts_walk (A0 A1 : Option Addr) (c0 c1 : Nat) (xs ys : List Int) (w : World) (hx : Kd.C (Kd.int .u8) w A0 xs.length xs) (hcx : xs.length ≤ c0) (hy : Kd.C (Kd.int .u8) w A1 ys.length ys) (hcy : ys.length ≤ c1) (bx : Byt xs) (hby : Byt ys) :
    Calls Try.prog 12 #[.slice A0 xs.length c0, .slice A1 ys.length c1] w fun e w' => e = .returned (.bool true) ∧ Below w.heap.size w w' := by
  by_cases h1 : 100 < xs.length
  · have d1 : decide (100 < xs.length) = true := decide_eq_true h1
    go_enter Try.func12, Try.ntmps12
    go_wp2_with fail
    refine (awake_true w).mono ?_
    rintro e w1 ⟨rfl, hb⟩
    go_wp2_with fail
    go_ret
    exact ⟨rfl, hb⟩
  have d1 : decide (100 < xs.length) = false := decide_eq_false h1
  by_cases h2 : 100 < ys.length
  · have d2 : decide (100 < ys.length) = true := decide_eq_true h2
    go_enter Try.func12, Try.ntmps12
    go_wp2_with fail
    refine (awake_true w).mono ?_
    rintro e w1 ⟨rfl, hb⟩
    go_wp2_with fail
    go_ret
    exact ⟨rfl, hb⟩
  have d2 : decide (100 < ys.length) = false := decide_eq_false h2
  cases hv : uValid xs with
  | false =>
    have hv := Lib.hid hv
    go_enter Try.func12, Try.ntmps12
    go_wp2_with fail
    have k1 := rvalid_c A0 c0 xs w hx hcx bx (by omega)
    rw [hv.out] at k1
    refine k1.mono ?_
    clear k1
    rintro e w1 ⟨rfl, hb⟩
    go_wp2_with fail
    refine (awake_true w1).mono ?_
    rintro e w2 ⟨rfl, hb2⟩
    go_wp2_with fail
    go_ret
    exact ⟨rfl, below_step hb hb2⟩
  | true =>
    have hp := decode_parts bx hv ys
    have lx := decode_len _ xs (Nat.le_refl _)
    have ly := decode_len _ ys (Nat.le_refl _)
    have la := decode_len _ (xs ++ ys) (Nat.le_refl _)
    rw [List.length_append] at la
    have hp1 := Lib.hid hp.1
    have hp2 := Lib.hid hp.2
    have hv := Lib.hid hv
    clear hp
    go_enter Try.func12, Try.ntmps12
    go_wp2_with fail
    have k1 := rvalid_c A0 c0 xs w hx hcx bx (by omega)
    rw [hv.out] at k1
    refine k1.mono ?_
    clear k1
    rintro e w1 ⟨rfl, hb1⟩
    have hF := Kd.R_nil (Kd.int .u8) 5 w1 w1.heap.size (fun k => w1.heap.size ≤ k)
    have hbase := Nat.le_refl w1.heap.size
    have hx1 := Kd.C_below hx hb1
    have hy1 := Kd.C_below hy hb1
    clear hx hy
    go_wp2_with (first
      | (at_builtin; go_loud (refine Kd.R_append_row (Value.int .u8) 0 (h1 := fun _ => rfl) (w0 := w1) w1.heap.size rfl _ _ 37 5 (.int .u8 0) 1 rfl Try.underlying37 info5 rfl (by decide) (.slice none 0 0) [] xs A0 xs.length c0 (fun k => w1.heap.size ≤ k) rfl rfl ?aF ?aO ?aR ?aB ?aS ?aL ?_; (case aF => exact fun k hk => hk); (case aO => exact hF); (case aR => exact hx1); (case aB => exact Below.refl _ _); (case aS => exact hbase); (case aL => simp only [List.length_nil]; omega); intro v2 w2 ho2 hb2 _ _; clear hF; rw [List.nil_append] at ho2; have hy2 := Kd.C_below hy1 hb2; have hx2 := Kd.C_below hx1 hb2))
      | ((with_reducible refine gate_builtin (b := .append) (xs := #[.tmp 21, .tmp 22]) rfl ?_); at_builtin; refine Kd.R_append_row (Value.int .u8) 0 (h1 := fun _ => rfl) (w0 := w1) w1.heap.size rfl _ _ 37 5 (.int .u8 0) 1 rfl Try.underlying37 info5 rfl (by decide) v2 xs ys A1 ys.length c1 (fun k => w1.heap.size ≤ k) rfl rfl ?aF ?aO ?aR ?aB ?aS ?aL ?_; (case aF => exact fun k hk => Nat.le_trans hb2.size hk); (case aO => exact ho2); (case aR => exact hy2); (case aB => exact hb2); (case aS => exact hb2.size); (case aL => omega); intro v3 w3 ho3 hb3 _ _; clear ho2 hx2 hy2))
    obtain ⟨A3, c3, rfl, hl3, hc3⟩ := Kd.R_reads ho3
    clear ho3
    have hx3 := Kd.C_below hx1 hb3
    have hy3 := Kd.C_below hy1 hb3
    have hB3 := below_step hb1 hb3
    clear hx1 hy1 hb1 hb2 hb3
    refine (decode_c A3 c3 (xs ++ ys) w3 hc3 hl3 (bx.append hby) (by rw [List.length_append]; omega)).mono ?_
    rintro e w4 ⟨v4, rfl, ho4, hb4⟩
    rw [hp1.out] at ho4
    obtain ⟨A4, c4, rfl, hl4, hd4⟩ := Kd.R_reads ho4
    have hx4 := Kd.C_below hx3 hb4
    have hy4 := Kd.C_below hy3 hb4
    have hc4 := Kd.C_below hc3 hb4
    have hB4 := below_step hB3 hb4
    clear hx3 hy3 hc3 hB3 ho4
    go_wp2_with fail
    refine (decode_c A0 c0 xs w4 hx4 hcx bx (by omega)).mono ?_
    rintro e w5 ⟨v5, rfl, ho5, hb5⟩
    go_wp2_with fail
    refine (decode_c A1 c1 ys w5 (Kd.C_below hy4 hb5) hcy hby (by omega)).mono ?_
    rintro e w6 ⟨v6, rfl, ho6, hb6⟩
    have ho5' := Kd.R_below ho5 hb6
    have hB6 := below_step hb5 hb6
    obtain ⟨A6, c6, rfl, hl6, hcc6⟩ := Kd.R_reads ho6
    clear ho5 ho6 hb5 hb6
    have hs6 := hB6.size
    go_wp2_with (first
      | (at_builtin; go_loud (refine Kd.R_append_row (Value.int .i32) 0 (h1 := fun _ => rfl) (w0 := w4) w4.heap.size rfl _ _ 49 21 (.int .i32 0) 4 rfl Try.underlying49 info21 rfl (by decide) v5 (uDec xs) (uDec ys) A6 (uDec ys).length c6 (fun k => w4.heap.size ≤ k) rfl rfl ?aF ?aO ?aR ?aB ?aS ?aL ?_; (case aF => intro k hk; omega); (case aO => exact ho5'); (case aR => exact hcc6); (case aB => exact hB6); (case aS => exact hs6); (case aL => omega); intro v7 w7 ho7 hb7 _ _)))
    obtain ⟨A7, c7, rfl, hl7, hd7⟩ := Kd.R_reads ho7
    clear ho5' hcc6 hB6 ho7
    have k1 := runes_c A4 A7 c4 c7 (uDec xs ++ uDec ys) (uDec xs ++ uDec ys) w7 (Kd.C_below hd4 hb7) hl4 hd7 hl7 (by rw [List.length_append]; omega)
    rw [decide_eq_true rfl, List.length_append] at k1
    simp only [List.length_append]
    refine k1.mono ?_
    clear k1
    rintro e w8 ⟨rfl, hb8⟩
    have hB8 := below_step hb7 hb8
    clear hb7 hb8 hd4 hd7
    go_wp2_with fail
    have k1 := valid_c A3 c3 (xs ++ ys) w8 (Kd.C_below hc4 hB8) hl3 (bx.append hby) (by rw [List.length_append]; omega)
    rw [hp2.out, List.length_append] at k1
    refine k1.mono ?_
    clear k1
    rintro e w9 ⟨rfl, hb9⟩
    have hB9 := below_step hB8 hb9
    clear hB8 hb9
    go_wp2_with fail
    refine (valid_c A1 c1 ys w9 (Kd.C_below hy4 hB9) hcy hby (by omega)).mono ?_
    rintro e w10 ⟨rfl, hb10⟩
    have hB10 := below_step hB9 hb10
    go_wp2_with fail
    refine (awake_true w10).mono ?_
    rintro e w11 ⟨rfl, hb11⟩
    have hB11 := below_step (below_step hB4 hB10) hb11
    go_wp2_with fail
    go_ret
    exact ⟨rfl, hB11⟩
theorem core_UtfParts (A0 : Option Addr) (c0 : Nat) (xs : List Int) (A1 : Option Addr) (c1 : Nat) (ys : List Int) (w : World) (hx : Kd.C (Kd.int .u8) w A0 xs.length xs) (hcx : xs.length ≤ c0) (bx : ∀ x ∈ xs, (Lit.int .u8 x).wf = true) (hy : Kd.C (Kd.int .u8) w A1 ys.length ys) (hcy : ys.length ≤ c1) (hby : ∀ x ∈ ys, (Lit.int .u8 x).wf = true) :
    Calls Try.prog 12 #[.slice A0 xs.length c0, .slice A1 ys.length c1] w fun e w' => e = .returned (.bool true) ∧ Below w.heap.size w w' :=
  parts_walk A0 A1 c0 c1 xs ys w hx hcx hy hcy (Byt.of_wf bx) (Byt.of_wf hby)

end Go.Proofs.Ytcoefbgnajaklaa.LinkUtfTells
