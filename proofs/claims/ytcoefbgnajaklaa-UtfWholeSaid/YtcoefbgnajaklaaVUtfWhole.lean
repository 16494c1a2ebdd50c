/- Contracts of the calls, and the walk of the law UtfWhole. Conditions: bytes, as many as the law lets in. -/
import Derived.Test.YtcoefbgnajaklaaAUtfTells
import Derived.Lib.Hide
namespace Go.Proofs.Ytcoefbgnajaklaa.LinkUtfTells
open Go Go.RowKit Go.Proofs.Ytcoefbgnajaklaa Go.Proofs.Ytcoefbgnajaklaa.PUtfTells Go.Proofs.YtcoefbgnajaklaaW.PrintWords Go.Proofs.YtcoefbgnajaklaaW.PrintLast Go.Proofs.YtcoefbgnajaklaaW.PrintMore Go.Proofs.Ytcoefbgnajaklaa.Utf Go.Lib
set_option linter.unusedVariables false
set_option linter.unusedSimpArgs false
set_option maxRecDepth 100000
theorem rvalid_c (A : Option Addr) (c : Nat) (xs : List Int) (w : World) (hC : Kd.C (Kd.int .u8) w A xs.length xs) (hc : xs.length ≤ c) (hb : Byt xs) (hl : xs.length ≤ 1000000) :
    Calls Try.prog 23 #[.slice A xs.length c] w fun e w' => e = .returned (.bool (uValid xs)) ∧ Below w.heap.size w w' :=
  (gossamerref1_Valid.calls (xs.length + 9) A c xs _ w hC hc (rvalid_ok xs hb (by omega) _ (by omega))).mono fun e w' h => ⟨h.1, h.2.below⟩
theorem runes_c (A A' : Option Addr) (c c' : Nat) (xs ys : List Int) (w : World) (hC : Kd.C (Kd.int .i32) w A xs.length xs) (hc : xs.length ≤ c) (hC' : Kd.C (Kd.int .i32) w A' ys.length ys) (hc' : ys.length ≤ c') (hl : xs.length ≤ 1000000) :
    Calls Try.prog 33 #[.slice A xs.length c, .slice A' ys.length c'] w fun e w' => e = .returned (.bool (decide (xs = ys))) ∧ Below w.heap.size w w' :=
  (gossamerlaw0_Runes.calls (xs.length + 1) A c xs A' c' ys _ w hC hc hC' hc' (runes_ok xs ys (by omega) _ (by omega))).mono fun e w' h => ⟨h.1, h.2.below⟩

set_option maxHeartbeats 2000000 in
theorem whole_walk (A0 : Option Addr) (c0 : Nat) (xs : List Int) (w : World) (hx : Kd.C (Kd.int .u8) w A0 xs.length xs) (hcx : xs.length ≤ c0) (bx : Byt xs) :
    Calls Try.prog 10 #[.slice A0 xs.length c0] w fun e w' => e = .returned (.bool true) ∧ Below w.heap.size w w' := by
  by_cases h1 : 300 < xs.length
  · have d1 : decide (300 < xs.length) = true := decide_eq_true h1
    go_enter Try.func10, Try.ntmps10
    go_wp2_with fail
    refine (awake_true w).mono ?_
    rintro e w1 ⟨rfl, hb⟩
    go_wp2_with fail
    go_ret
    exact ⟨rfl, hb⟩
  have d1 : decide (300 < xs.length) = false := decide_eq_false h1
  have ld := decode_len _ xs (Nat.le_refl _)
  have le := encode_len (uDec xs)
  have be := encode_byt (uDec xs)
  have hv : ((strOfNums (uEnc (uDec xs))).toList == (strOfNums xs).toList) = uValid xs := by
    rw [str_inj be bx]
    cases hv : uValid xs with
    | true => exact decide_eq_true ((valid_iff bx).2 hv)
    | false => exact decide_eq_false fun h => by rw [(valid_iff bx).1 h] at hv; cases hv
  have hv2 := Lib.hid (valid_encode' (uDec xs))
  have r32 := decode_r32 bx
  go_enter Try.func10, Try.ntmps10
  have hv := Lib.hid hv
  go_wp2_with fail
  refine (decode_c A0 c0 xs w hx hcx bx (by omega)).mono ?_
  rintro e w1 ⟨v1, rfl, ho1, hb1⟩
  obtain ⟨A1, c1, rfl, hl1, hd1⟩ := Kd.R_reads ho1
  go_wp2_with fail
  refine (encode_c A1 c1 (uDec xs) w1 hd1 hl1 r32 (by omega)).mono ?_
  rintro e w2 ⟨v2, rfl, ho2, hb2⟩
  obtain ⟨A2, c2, rfl, hl2, hd2⟩ := Kd.R_reads ho2
  have hx2 := Kd.C_below (Kd.C_below hx hb1) hb2
  have hB2 := below_step hb1 hb2
  clear ho1 ho2 hd1 hl1 hx hb1 hb2 r32 d1 h1
  have lp : (uEnc (uDec xs)).length ≤ 1200 := by omega
  generalize hp : uEnc (uDec xs) = p at *
  clear hp ld le
  go_wp2_with fail
  have f1 := Kd.C_string (c := c2) Try.underlying37 Try.underlying5 Try.underlying9 (Kd.C_drew hd2)
  have f2 := Kd.C_string (c := c0) Try.underlying37 Try.underlying5 Try.underlying9 (Kd.C_drew hx2)
  have hv := hv.out
  go_outline
  go_region_with (first
    | (go_at_call_of 32 (Value.slice A0 xs.length c0); refine (valid_c A0 c0 xs _ ?_ hcx bx (by omega)).mono ?_; exact Kd.C_drew hx2; rintro e w3 ⟨rfl, hb3⟩; have f1 := Kd.C_string (c := c2) Try.underlying37 Try.underlying5 Try.underlying9 (Kd.C_below (Kd.C_drew hd2) hb3); have f2 := Kd.C_string (c := c0) Try.underlying37 Try.underlying5 Try.underlying9 (Kd.C_below (Kd.C_drew hx2) hb3); have hB3 := below_step (below_drew1 hB2) hb3)
    | (go_at_call_of 32 (Value.slice A2 p.length c2); have k1 := valid_c A2 c2 p _ (Kd.C_below (Kd.C_drew hd2) hb3) hl2 be (by omega); rw [hv2.out] at k1; refine k1.mono ?_; rintro e w4 ⟨rfl, hb4⟩; have hB4 := below_step hB3 hb4)
    | (go_at_call 29; refine (awake_true _).mono ?_; rintro e w5 ⟨rfl, hb5⟩; have hB5 := below_step hB4 hb5))
  all_goals (go_wp2; go_ret; exact ⟨rfl, hB5⟩)
theorem core_UtfWhole (A0 : Option Addr) (c0 : Nat) (xs : List Int) (w : World) (hx : Kd.C (Kd.int .u8) w A0 xs.length xs) (hcx : xs.length ≤ c0) (bx : ∀ x ∈ xs, (Lit.int .u8 x).wf = true) :
    Calls Try.prog 10 #[.slice A0 xs.length c0] w fun e w' => e = .returned (.bool true) ∧ Below w.heap.size w w' :=
  whole_walk A0 c0 xs w hx hcx (Byt.of_wf bx)

end Go.Proofs.Ytcoefbgnajaklaa.LinkUtfTells
