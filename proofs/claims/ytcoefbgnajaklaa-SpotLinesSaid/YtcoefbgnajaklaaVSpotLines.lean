/- The walk of the law SpotLines. No condition. -/
import Derived.Test.YtcoefbgnajaklaaSA
import Derived.Test.YtcoefbgnajaklaaQB
import Derived.Test.YtcoefbgnajaklaaQD
import Derived.Test.YtcoefbgnajaklaaFl
import Derived.Lib.Hide
import Derived.Lib.ConvBytes
import Derived.Laws.ComplexArith
import Derived.Laws.FloatArith
import Derived.Laws.Cover2
import Derived.Laws.Cover3
namespace Go.Proofs.Ytcoefbgnajaklaa.LinkUtfTells
open Go Go.RowKit Go.Proofs.Ytcoefbgnajaklaa Go.Proofs.Ytcoefbgnajaklaa.PUtfTells Go.Proofs.YtcoefbgnajaklaaW.PrintWords Go.Proofs.YtcoefbgnajaklaaW.PrintLast Go.Proofs.YtcoefbgnajaklaaW.PrintMore Go.Proofs.Ytcoefbgnajaklaa.Utf Go.Lib Go.Proofs.Ytcoefbgnajaklaa.Fl
set_option linter.unusedVariables false
set_option linter.unusedSimpArgs false
set_option maxRecDepth 100000
/-- A number, from 0 to below n. -/
def uLow (x n : Int) : Int := (x % 18446744073709551616) % n
theorem uLow_b (x n : Int) (h : 0 < n) : 0 ≤ uLow x n ∧ uLow x n < n := by
  unfold uLow
  exact ⟨Int.emod_nonneg _ (by omega), Int.emod_lt_of_pos _ h⟩
theorem low_f (x n : Int) (h : 0 < n) (h1 : n < 4611686018427387904) : gossamerlaw0_Low.f x n = some (uLow x n) := by
  have e1 : IntKind.u64.wrap n = n := by simp only [IntKind.wrap, IntKind.bits, IntKind.signed]; simp; omega
  have e2 : IntKind.u64.wrap x = x % 18446744073709551616 := by simp [IntKind.wrap, IntKind.bits, IntKind.signed]
  have hb := uLow_b x n h
  unfold gossamerlaw0_Low.f
  rw [e1, e2, if_neg (by omega), Int.tmod_eq_emod_of_nonneg (Int.emod_nonneg _ (by omega))]
  show some (wrap64 (uLow x n)) = _
  rw [w64 (by omega) (by omega)]
theorem low_c (x n : Int) (w : World) (h : 0 < n) (h1 : n < 4611686018427387904) :
    Calls Try.prog 24 #[.int .i64 x, .int .i64 n] w fun e w' => e = .returned (.int .i64 (uLow x n)) ∧ Below w.heap.size w w' :=
  (gossamerlaw0_Low.calls x n _ w (low_f x n h h1)).mono fun e w' h => ⟨h.1, h.2.below⟩

/-- A code point that may be, of a number. -/
def uScal (x : Int) : Int := if 55296 ≤ uLow x 1114112 ∧ uLow x 1114112 ≤ 57343 then uLow x 1114112 - 55296 else uLow x 1114112
theorem uScal_ok (x : Int) : Scal (uScal x) := by
  have := uLow_b x 1114112 (by omega)
  unfold uScal Scal
  split <;> omega
theorem scalar_f (x : Int) : gossamerlaw0_Scalar.f x = some (uScal x) := by
  have hb := uLow_b x 1114112 (by omega)
  unfold gossamerlaw0_Scalar.f uScal
  rw [low_f x 1114112 (by omega) (by omega)]
  simp only [Option.bind_some]
  rw [w32 (by omega) (by omega)]
  by_cases c1 : uLow x 1114112 ≥ 55296
  · rw [if_pos c1]
    by_cases c2 : uLow x 1114112 ≤ 57343
    · rw [if_pos c2, if_pos ⟨c1, c2⟩, w32 (by omega) (by omega)]
    · rw [if_neg c2, if_neg (by omega)]
  · rw [if_neg c1, if_neg (by omega)]
theorem scalar_c (x : Int) (w : World) :
    Calls Try.prog 27 #[.int .i64 x] w fun e w' => e = .returned (.int .i32 (uScal x)) ∧ Below w.heap.size w w' :=
  (gossamerlaw0_Scalar.calls x _ w (scalar_f x)).mono fun e w' h => ⟨h.1, h.2.below⟩

section
variable (y : Int)
theorem i32_or192 (h₀ : 0 ≤ y) (h₁ : y < 32) : bits .or .i32 192 y = 192 + y :=
  bits_join .i32 31 (by decide) wraps_i32 5 192 y (by decide) (by decide) (by decide) h₀ h₁ (by omega)
theorem i32_or224 (h₀ : 0 ≤ y) (h₁ : y < 16) : bits .or .i32 224 y = 224 + y :=
  bits_join .i32 31 (by decide) wraps_i32 4 224 y (by decide) (by decide) (by decide) h₀ h₁ (by omega)
theorem i32_or240 (h₀ : 0 ≤ y) (h₁ : y < 8) : bits .or .i32 240 y = 240 + y :=
  bits_join .i32 31 (by decide) wraps_i32 3 240 y (by decide) (by decide) (by decide) h₀ h₁ (by omega)
theorem i32_or128 (h₀ : 0 ≤ y) (h₁ : y < 64) : bits .or .i32 128 y = 128 + y :=
  bits_join .i32 31 (by decide) wraps_i32 6 128 y (by decide) (by decide) (by decide) h₀ h₁ (by omega)
theorem i32_and63 (h₀ : 0 ≤ y) (h₁ : y < 2147483648) : bits .and .i32 y 63 = y % 64 :=
  bits_mask .i32 31 (by decide) wraps_i32 6 (by decide) y h₀ (by omega)
end
theorem bytes_ok (r : Int) (k : Nat) (hk : 1 ≤ k) : gossamerref1_Bytes.f k r = some (uPt (uFix r)) := by
  obtain ⟨k, rfl⟩ : ∃ m, k = m + 1 := ⟨k - 1, by omega⟩
  have bad : uPt 65533 = [239, 191, 189] := by decide
  have t1 : ∀ x : Int, gossamerref1_Bytes.j0 (k + 1) x true = some [239, 191, 189] := fun x => by simp only [gossamerref1_Bytes.j0]; rfl
  have t2 : ∀ x : Int, 0 ≤ x → x ≤ 1114111 → gossamerref1_Bytes.j0 (k + 1) x false = some (uPt x) := by
    intro x h0 h1
    simp only [gossamerref1_Bytes.j0]
    unfold uPt
    rw [if_neg (by simp)]
    by_cases c1 : x ≤ 127
    · rw [if_pos c1, if_pos (by omega), show x % 256 = x by omega]
    · rw [if_neg c1, if_neg (show ¬ x < 128 by omega)]
      by_cases c2 : x ≤ 2047
      · rw [if_pos c2, if_pos (show x < 2048 by omega), i32_or192 _ (by omega) (by omega), i32_and63 _ (by omega) (by omega), i32_or128 _ (by omega) (by omega), show (192 + x / 64) % 256 = 192 + x / 64 by omega, show (128 + x % 64) % 256 = 128 + x % 64 by omega]
      · rw [if_neg c2, if_neg (show ¬ x < 2048 by omega)]
        by_cases c3 : x ≤ 65535
        · rw [if_pos c3, if_pos (show x < 65536 by omega), i32_or224 _ (by omega) (by omega), i32_and63 (x / 64) (by omega) (by omega), i32_and63 x (by omega) (by omega), i32_or128 _ (by omega) (by omega), i32_or128 _ (by omega) (by omega), show (224 + x / 4096) % 256 = 224 + x / 4096 by omega, show (128 + x / 64 % 64) % 256 = 128 + x / 64 % 64 by omega, show (128 + x % 64) % 256 = 128 + x % 64 by omega]
        · rw [if_neg c3, if_neg (show ¬ x < 65536 by omega), i32_or240 _ (by omega) (by omega), i32_and63 (x / 4096) (by omega) (by omega), i32_and63 (x / 64) (by omega) (by omega), i32_and63 x (by omega) (by omega), i32_or128 _ (by omega) (by omega), i32_or128 _ (by omega) (by omega), i32_or128 _ (by omega) (by omega), show (240 + x / 262144) % 256 = 240 + x / 262144 by omega, show (128 + x / 4096 % 64) % 256 = 128 + x / 4096 % 64 by omega, show (128 + x / 64 % 64) % 256 = 128 + x / 64 % 64 by omega, show (128 + x % 64) % 256 = 128 + x % 64 by omega]
  unfold gossamerref1_Bytes.f uFix
  by_cases c1 : r < 0
  · rw [if_pos c1, if_pos c1, t1, bad]
  · rw [if_neg c1, if_neg c1]
    by_cases c2 : r > 1114111
    · rw [if_pos c2, if_pos c2, t1, bad]
    · rw [if_neg c2, if_neg c2]
      by_cases c3 : r ≥ 55296
      · rw [if_pos c3]
        by_cases c4 : r ≤ 57343
        · rw [decide_eq_true c4, t1, if_pos ⟨c3, c4⟩, bad]
        · rw [decide_eq_false c4, t2 r (by omega) (by omega), if_neg (by omega)]
      · rw [if_neg c3, t2 r (by omega) (by omega), if_neg (by omega)]
theorem bytes_c (r : Int) (w : World) :
    Calls Try.prog 28 #[.int .i32 r] w fun e w' => ∃ v, e = .returned v ∧ Kd.R (Kd.int .u8) 5 w' w.heap.size (fun _ => True) v (uPt (uFix r)) ∧ Below w.heap.size w w' :=
  gossamerref1_Bytes.calls 1 r _ w (bytes_ok r 1 (by omega))

theorem bs_append (a b : ByteArray) : bs (a ++ b) = bs a ++ bs b := by
  unfold bs Go.Proofs.YtcoefbgnajaklaaW.PrintWords.bytesOf
  rw [ByteArray.data_append]
  simp
theorem bs_str {p : List Int} (h : Byt p) : bs (strOfNums p) = p := by
  unfold bs Go.Proofs.YtcoefbgnajaklaaW.PrintWords.bytesOf
  rw [strOfNums_data, List.map_map]
  conv => rhs; rw [← List.map_id p]
  apply List.map_congr_left
  intro x hx
  have := h x hx
  simp only [Function.comp, UInt8.toNat_ofNat', id]
  omega
/-- A text whose end stands at a place. -/
def Ln (s : ByteArray) (a b : Nat) : Prop := ∃ L, bs s = uEnc L ∧ (∀ x ∈ L, Scal x) ∧ sp L (1, 1) = (a, b)
theorem Ln_empty : Ln ByteArray.empty 1 1 := ⟨[], rfl, by simp, rfl⟩
theorem Ln_snoc {s : ByteArray} {a b : Nat} (h : Ln s a b) {r : Int} (hr : Scal r) (t : ByteArray) (ht : bs t = uPt r) : Ln (s ++ t) (if r = 10 then a + 1 else a) (if r = 10 then 1 else b + 1) := by
  obtain ⟨L, h1, h2, h3⟩ := h
  refine ⟨L ++ [r], ?_, ?_, ?_⟩
  · rw [bs_append, h1, ht, encode_append]
    congr 1
    rw [encode_cons, fix_eq hr, encode_nil, List.append_nil]
  · intro x hx
    rcases List.mem_append.1 hx with hx | hx
    · exact h2 x hx
    · obtain rfl := List.mem_singleton.1 hx; exact hr
  · rw [sp_snoc, h3]; split <;> rfl
theorem Ln_sp {s : ByteArray} {a b : Nat} (h : Ln s a b) : sp (uDec (bs s)) (1, 1) = (a, b) := by
  obtain ⟨L, h1, h2, h3⟩ := h
  have e : uDec (uEnc L) = L := by
    rw [decode_encode']
    conv => rhs; rw [← List.map_id L]
    exact List.map_congr_left fun r hr => by simpa using fix_eq (h2 r hr)
  rw [h1, e, h3]
/-- The code point that lines are made of. -/
def lineR (n : Int) : Int := if uScal n = 10 then 13 else uScal n
theorem lineR_ok (n : Int) : Scal (lineR n) ∧ lineR n ≠ 10 := by
  unfold lineR
  split
  · exact ⟨⟨by omega, by omega, by omega⟩, by omega⟩
  · rename_i h; exact ⟨uScal_ok n, h⟩
set_option maxHeartbeats 4000000 in
theorem spotLines_walk (A0 : Option Addr) (c0 : Nat) (ns : List Int) (n m : Int) (w : World) (hx : Kd.C (Kd.int .i64) w A0 ns.length ns) : 
    Calls Try.prog 6 #[.slice A0 ns.length c0, .int .i64 n, .int .i64 m] w fun e w' => e = .returned (.bool true) ∧ Below w.heap.size w w' := by
  by_cases h1 : 12 < ns.length
  · have d1 : decide (12 < ns.length) = true := decide_eq_true h1
    go_enter Try.func6, Try.ntmps6
    go_wp2_with fail
    refine (awake3_true w).mono ?_
    rintro e w1 ⟨rfl, hb⟩
    go_wp2_with fail
    go_ret
    exact ⟨rfl, hb⟩
  have d1 : decide (12 < ns.length) = false := decide_eq_false h1
  have hr := lineR_ok n
  go_enter Try.func6, Try.ntmps6
  go_wp2_with fail
  refine (scalar_c n w).mono ?_
  rintro e w1 ⟨rfl, hb1⟩
  go_upto_if 21 with (fail)
  go_cut [7] (fun v7 wc => v7 = .int .i32 (lineR n) ∧ wc = w1)
  case first =>
    by_cases c : uScal n = 10
    · have e : lineR n = 13 := by unfold lineR; rw [if_pos c]
      have e := Lib.hid e
      have c := beq_iff_eq.2 c
      go_wp2
      go_meet
      case rel => exact ⟨by rw [e.out], rfl⟩
    · have e : lineR n = uScal n := by unfold lineR; rw [if_neg c]
      have e := Lib.hid e
      have c := beq_eq_false_iff_ne.2 c
      go_wp2
      go_meet
      case rel => exact ⟨by rw [e.out], rfl⟩
  case rest =>
    obtain ⟨rfl, rfl⟩ := hcut
    have hx1 := Kd.C_below hx hb1
    obtain ⟨hs, h10⟩ := hr
    generalize lineR n = r at hs h10 ⊢
    have hp := enc_byt hs
    have hl4 := @enc_len r
    have k1 := bytes_c r wc
    rw [fix_eq hs] at k1
    have h10 := Lib.hid h10
    have k1 := Lib.hid k1
    go_wp2_with fail
    refine k1.out.mono ?_
    rintro e w2 ⟨v2, rfl, ho2, hb2⟩
    obtain ⟨A2, c2, rfl, -, hd2⟩ := Kd.R_reads ho2
    have hB2 := below_step hb1 hb2
    have hx2 := Kd.C_below hx1 hb2
    have f1 := Kd.C_string (c := c2) Try.underlying37 Try.underlying5 Try.underlying9 hd2
    have hone := bs_str hp
    have hsz : (strOfNums (uPt r)).size ≤ 4 := by rw [strOfNums_size]; omega
    clear ho2 hd2 hx hx1 hb1 hb2 k1
    go_upto_region 7 with (fail)
    generalize strOfNums (uPt r) = one at *
    have hone := Lib.hid hone
    clear f1
    go_wp2_with fail
    go_loopw [9, 10, 11] (fun s i _ w' => ∃ (k : Nat) (x : ByteArray), k ≤ ns.length ∧ i = .int .i64 k ∧ s = .string x ∧ x.size ≤ 81 * k ∧ Hid (Ln x (1 + k) 1) ∧ Aside0 (Below w2.heap.size w2 w')) (fun _ i _ _ => ns.length - (intOf i).toNat)
    case atStart => exact ⟨0, ByteArray.empty, Nat.zero_le _, rfl, rfl, by simp, Lib.hid Ln_empty, ⟨Below.refl _ _⟩⟩
    case round =>
      obtain ⟨k, x, hk, rfl, rfl, hxs, hln, hb⟩ := hrel
      by_cases hlt : k < ns.length
      · have dlt : decide ((k : Int) < (ns.length : Int)) = true := decide_eq_true (by omega)
        have lc := low_c (rd ns (k : Int)) 21
        have b1 := uLow_b (rd ns (k : Int)) 21 (by omega)
        obtain ⟨Q, hQ⟩ : ∃ Q : Nat, uLow (rd ns (k : Int)) 21 = Q := ⟨(uLow (rd ns (k : Int)) 21).toNat, by omega⟩
        rw [hQ] at lc b1
        clear hQ
        have lc := Lib.hid lc
        go_wp2_with fail
        go_loopw [9, 11] (fun s j w' => ∃ (q : Nat) (y : ByteArray), q ≤ Q ∧ j = .int .i64 q ∧ s = .string y ∧ y.size ≤ 81 * k + 4 * q ∧ Hid (Ln y (1 + k) (1 + q)) ∧ Aside0 (Below w2.heap.size w2 w')) (fun _ j _ => Q - (intOf j).toNat)
        case atStart => exact ⟨0, x, Nat.zero_le _, rfl, rfl, by omega, hln, hb⟩
        case round =>
          clear hxs hln hb
          obtain ⟨q, y, hq, rfl, rfl, hys, hln, hb⟩ := hrel
          obtain ⟨ad, hA, hcell⟩ := Kd.at_int (Kd.C_below hx2 hb.out) (k : Int) (by omega) (by omega)
          rw [Int.toNat_natCast] at hcell
          cases hA
          by_cases hql : q < Q
          · have dq : decide ((q : Int) < (Q : Int)) = true := decide_eq_true (by omega)
            have q1 : ¬ (9223372036854775807 < y.size + one.size) := by omega
            have hln2 := Ln_snoc hln.out hs one hone.out
            rw [if_neg h10.out, if_neg h10.out] at hln2
            have hln2 := Lib.hid hln2
            have hsz2 : (y ++ one).size ≤ 81 * k + 4 * (q + 1) := by rw [ByteArray.size_append]; omega
            go_wp2_with fail
            refine (lc.out _ (by omega) (by omega)).mono ?_
            rintro e w3 ⟨rfl, hb3⟩
            have hB := Aside0.mk (below_step hb.out hb3)
            clear hb3
            go_wp2_with fail
            exact ⟨⟨q + 1, _, by omega, by go_num, rfl, hsz2, hln2, hB⟩, by simp [intOf]; omega⟩
          · obtain rfl : q = Q := by omega
            have q1 : ¬ (9223372036854775807 < y.size + 1) := by omega
            have hln2 := Ln_snoc hln.out (r := 10) ⟨by omega, by omega, by omega⟩ ⟨#[10]⟩ rfl
            rw [if_pos rfl, if_pos rfl] at hln2
            have hln2 := Lib.hid hln2
            have hsz2 : (y ++ ⟨#[10]⟩).size ≤ 81 * (k + 1) := by rw [ByteArray.size_append]; show y.size + 1 ≤ _; omega
            go_wp2_with fail
            refine (lc.out _ (by omega) (by omega)).mono ?_
            rintro e w3 ⟨rfl, hb3⟩
            have hB := Aside0.mk (below_step hb.out hb3)
            clear hb3
            go_wp2_with fail
            exact ⟨⟨k + 1, _, by omega, by go_num, rfl, hsz2, by rw [show 1 + (k + 1) = 1 + k + 1 by omega]; exact hln2, hB⟩, by simp [intOf]; omega⟩
      · obtain rfl : k = ns.length := by omega
        have dlt : decide ((ns.length : Int) < (ns.length : Int)) = false := decide_eq_false (by omega)
        have ka := fun w => at_c x (x.size : Int) w (by omega)
        rw [Int.toNat_natCast, bs_take x x.size (Nat.le_refl _), Ln_sp hln.out] at ka
        have kn := number_c (1 + ns.length) 1
        rw [show ((1 + ns.length : Nat) : Int) = 1 + (ns.length : Int) by omega, show ((1 : Nat) : Int) = 1 from rfl] at kn
        have o1 := ord_eq (1 + ns.length) (by omega)
        have o2 := ord_eq 1 (by omega)
        have o2' := o2
        rw [fl_one] at o2'
        have lc := low_c m 30
        have b1 := uLow_b m 30 (by omega)
        obtain ⟨N, hN⟩ : ∃ N : Nat, uLow m 30 = N := ⟨(uLow m 30).toNat, by omega⟩
        rw [hN] at lc b1
        clear hN
        have lc9 := low_c m 9
        have b9 := uLow_b m 9 (by omega)
        obtain ⟨D, hD⟩ : ∃ D : Nat, uLow m 9 = D := ⟨(uLow m 9).toNat, by omega⟩
        rw [hD] at lc9 b9
        clear hD
        simp only [cx, fl_one] at ka kn
        have ka := Lib.hid ka
        have kn := Lib.hid kn
        have lc := Lib.hid lc
        have lc9 := Lib.hid lc9
        go_wp2_with fail
        refine (ka.out _).mono ?_
        rintro e w3 ⟨rfl, hb3⟩
        have hB3 := below_step hb.out hb3
        clear hb3
        go_wp2_with fail
        refine (kn.out _).mono ?_
        rintro e w4 ⟨rfl, rfl⟩
        go_wp2_with fail
        refine (lc.out _ (by omega) (by omega)).mono ?_
        rintro e w4 ⟨rfl, hb4⟩
        have hB4 := Aside0.mk (below_step hB3 hb4)
        clear hb4 hB3 hb ka kn
        go_wp2_with fail
        go_loop [9, 13] (fun s j => ∃ (q : Nat) (y : ByteArray), q ≤ N ∧ j = .int .i64 q ∧ s = .string y ∧ y.size ≤ 1000 + 4 * q ∧ Hid (Ln y (1 + ns.length) (1 + q))) (fun _ j => N - (intOf j).toNat)
        case atStart => exact ⟨0, x, Nat.zero_le _, rfl, rfl, by omega, hln⟩
        case round =>
          clear hxs hln
          obtain ⟨q, y, hq, rfl, rfl, hys, hln⟩ := hrel
          by_cases hql : q < N
          · have dq : decide ((q : Int) < (N : Int)) = true := decide_eq_true (by omega)
            have q1 : ¬ (9223372036854775807 < y.size + one.size) := by omega
            have hln2 := Ln_snoc hln.out hs one hone.out
            rw [if_neg h10.out, if_neg h10.out] at hln2
            have hln2 := Lib.hid hln2
            have hsz2 : (y ++ one).size ≤ 1000 + 4 * (q + 1) := by rw [ByteArray.size_append]; omega
            go_wp2_with fail
            exact ⟨⟨q + 1, _, by omega, by go_num, rfl, hsz2, hln2⟩, by simp [intOf]; omega⟩
          · obtain rfl : q = N := by omega
            have dq : decide ((q : Int) < (q : Int)) = false := decide_eq_false (by omega)
            have ka := fun w => at_c y (y.size : Int) w (by omega)
            have kb := fun w => at_c y ((y.size : Int) + D) w (by omega)
            have kz := fun w => at_c y (-1 - (D : Int)) w (by omega)
            rw [Int.toNat_natCast, bs_take y y.size (Nat.le_refl _), Ln_sp hln.out] at ka
            rw [bs_take y _ (by omega), Ln_sp hln.out] at kb
            rw [show (-1 - (D : Int)).toNat = 0 by omega, List.take_zero, decode_nil, sp_nil] at kz
            have kn := number_c (1 + ns.length) (1 + q)
            rw [show ((1 + ns.length : Nat) : Int) = 1 + (ns.length : Int) by omega, show ((1 + q : Nat) : Int) = 1 + (q : Int) by omega] at kn
            have o3 := ord_eq (1 + q) (by omega)
            simp only [cx, fl_one] at ka kb kz kn
            have ka := Lib.hid ka
            have kb := Lib.hid kb
            have kz := Lib.hid kz
            have kn := Lib.hid kn
            go_wp2_with fail
            refine (ka.out _).mono ?_
            rintro e w5 ⟨rfl, hb5⟩
            have hB5 := below_step hB4.out hb5
            clear hb5
            go_wp2_with fail
            refine (kn.out _).mono ?_
            rintro e w6 ⟨rfl, rfl⟩
            go_wp2_with fail
            refine (lc9.out _ (by omega) (by omega)).mono ?_
            rintro e w6 ⟨rfl, hb6⟩
            have hB6 := below_step hB5 hb6
            clear hb6 hB5
            go_wp2_with fail
            refine (kb.out _).mono ?_
            rintro e w7 ⟨rfl, hb7⟩
            have hB7 := below_step hB6 hb7
            clear hb7 hB6
            go_wp2_with fail
            refine (kn.out _).mono ?_
            rintro e w8 ⟨rfl, rfl⟩
            go_wp2_with fail
            refine (lc9.out _ (by omega) (by omega)).mono ?_
            rintro e w8 ⟨rfl, hb8⟩
            have hB8 := below_step hB7 hb8
            clear hb8 hB7
            go_wp2_with fail
            refine (kz.out _).mono ?_
            rintro e w9 ⟨rfl, hb9⟩
            have hB9 := below_step hB8 hb9
            clear hb9 hB8
            go_wp2_with fail
            refine (awake3_true _).mono ?_
            rintro e w10 ⟨rfl, hb10⟩
            go_wp2_with fail
            go_ret
            exact ⟨rfl, below_step hB2 (below_step hB9 hb10)⟩
theorem core_SpotLines (A0 : Option Addr) (c0 : Nat) (ns : List Int) (n m : Int) (w : World) (hx : Kd.C (Kd.int .i64) w A0 ns.length ns) (_h0 : ns.length ≤ c0) (_h1 : ∀ x ∈ ns, (Lit.int .i64 x).wf = true) (_h2 : (Lit.int .i64 n).wf = true) (_h3 : (Lit.int .i64 m).wf = true) : 
    Calls Try.prog 6 #[.slice A0 ns.length c0, .int .i64 n, .int .i64 m] w fun e w' => e = .returned (.bool true) ∧ Below w.heap.size w w' := spotLines_walk A0 c0 ns n m w hx

end Go.Proofs.Ytcoefbgnajaklaa.LinkUtfTells
