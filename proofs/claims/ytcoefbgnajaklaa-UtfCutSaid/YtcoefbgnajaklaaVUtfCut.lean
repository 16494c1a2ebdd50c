/- Contracts of the calls, and the walk of the law UtfCut. Conditions: bytes, as many as the law lets in. -/
import Derived.Test.YtcoefbgnajaklaaAUtfTells
import Derived.Test.YtcoefbgnajaklaaQB
import Derived.Lib.Hide
namespace Go.Proofs.Ytcoefbgnajaklaa.LinkUtfTells
open Go Go.RowKit Go.Proofs.Ytcoefbgnajaklaa Go.Proofs.Ytcoefbgnajaklaa.PUtfTells Go.Proofs.YtcoefbgnajaklaaW.PrintWords Go.Proofs.YtcoefbgnajaklaaW.PrintLast Go.Proofs.YtcoefbgnajaklaaW.PrintMore Go.Proofs.Ytcoefbgnajaklaa.Utf Go.Lib
set_option linter.unusedVariables false
set_option linter.unusedSimpArgs false
set_option maxRecDepth 100000
theorem rvalid_c (A : Option Addr) (c : Nat) (xs : List Int) (w : World) (hC : Kd.C (Kd.int .u8) w A xs.length xs) (hc : xs.length ≤ c) (hb : Byt xs) (hl : xs.length ≤ 1000000) :
    Calls Try.prog 23 #[.slice A xs.length c] w fun e w' => e = .returned (.bool (uValid xs)) ∧ Below w.heap.size w w' :=
  (gossamerref1_Valid.calls (xs.length + 9) A c xs _ w hC hc (rvalid_ok xs hb (by omega) _ (by omega))).mono fun e w' h => ⟨h.1, h.2.below⟩
theorem runes_c (A A' : Option Addr) (c c' : Nat) (xs ys : List Int) (w : World) (hC : Kd.C (Kd.int .i32) w A xs.length xs) (hc : xs.length ≤ c) (hC' : Kd.C (Kd.int .i32) w A' ys.length ys) (hc' : ys.length ≤ c') (hl : xs.length ≤ 1000000) :
    Calls Try.prog 33 #[.slice A xs.length c, .slice A' ys.length c'] w fun e w' => e = .returned (.bool (decide (xs = ys))) ∧ Below w.heap.size w w' :=
  (gossamerlaw0_Runes.calls (xs.length + 1) A c xs A' c' ys _ w hC hc hC' hc' (runes_ok xs ys (by omega) _ (by omega))).mono fun e w' h => ⟨h.1, h.2.below⟩

/-- A number, from 0 to below n. -/
def uLow (x n : Int) : Int := (x % 18446744073709551616) % n
theorem uLow_b (x n : Int) (h : 0 < n) : 0 ≤ uLow x n ∧ uLow x n < n := by
  unfold uLow
  exact ⟨Int.emod_nonneg _ (by omega), Int.emod_lt_of_pos _ h⟩
theorem low_f (x n : Int) (h : 0 < n) (h1 : n < 4611686018427387904) : gossamerlaw0_Low.f x n = some (uLow x n) := by
  have e1 : IntKind.u64.wrap n = n := by simp only [IntKind.wrap, IntKind.bits, IntKind.signed]; simp; omega
  have e2 : IntKind.u64.wrap x = x % 18446744073709551616 := by simp [IntKind.wrap, IntKind.bits, IntKind.signed]
  have hb := uLow_b x n h
  unfold gossamerlaw0_Low.f
  rw [e1, e2, if_neg (by omega), Int.tmod_eq_emod_of_nonneg (Int.emod_nonneg _ (by omega))]
  show some (wrap64 (uLow x n)) = _
  rw [w64 (by omega) (by omega)]
theorem low_c (x n : Int) (w : World) (h : 0 < n) (h1 : n < 4611686018427387904) :
    Calls Try.prog 24 #[.int .i64 x, .int .i64 n] w fun e w' => e = .returned (.int .i64 (uLow x n)) ∧ Below w.heap.size w w' :=
  (gossamerlaw0_Low.calls x n _ w (low_f x n h h1)).mono fun e w' h => ⟨h.1, h.2.below⟩

/-- A code point that may be, of a number. -/
def uScal (x : Int) : Int := if 55296 ≤ uLow x 1114112 ∧ uLow x 1114112 ≤ 57343 then uLow x 1114112 - 55296 else uLow x 1114112
theorem uScal_ok (x : Int) : Scal (uScal x) := by
  have := uLow_b x 1114112 (by omega)
  unfold uScal Scal
  split <;> omega
theorem scalar_f (x : Int) : gossamerlaw0_Scalar.f x = some (uScal x) := by
  have hb := uLow_b x 1114112 (by omega)
  unfold gossamerlaw0_Scalar.f uScal
  rw [low_f x 1114112 (by omega) (by omega)]
  simp only [Option.bind_some]
  rw [w32 (by omega) (by omega)]
  by_cases c1 : uLow x 1114112 ≥ 55296
  · rw [if_pos c1]
    by_cases c2 : uLow x 1114112 ≤ 57343
    · rw [if_pos c2, if_pos ⟨c1, c2⟩, w32 (by omega) (by omega)]
    · rw [if_neg c2, if_neg (by omega)]
  · rw [if_neg c1, if_neg (by omega)]
theorem scalar_c (x : Int) (w : World) :
    Calls Try.prog 27 #[.int .i64 x] w fun e w' => e = .returned (.int .i32 (uScal x)) ∧ Below w.heap.size w w' :=
  (gossamerlaw0_Scalar.calls x _ w (scalar_f x)).mono fun e w' h => ⟨h.1, h.2.below⟩

theorem next_cut {r : Int} (h : Scal r) (k : Nat) (h1 : 1 ≤ k) (h2 : k < (uPt r).length) : uNext ((uPt r).take k) = (65533, (k : Int), false) := by
  obtain ⟨g0, g1, g2⟩ := h
  unfold uPt at h2 ⊢
  split at h2
  · simp only [List.length_cons, List.length_nil] at h2; omega
  · rename_i c1
    rw [if_neg c1]
    split at h2
    · rename_i c2
      simp only [List.length_cons, List.length_nil] at h2
      obtain rfl : k = 1 := by omega
      rw [if_pos c2]
      simp only [List.take, uNext, uLead, uTail, if_neg (show ¬ (192 + r / 64 < 128) by omega), if_neg (show ¬ (192 + r / 64 < 194) by omega), if_pos (show 192 + r / 64 < 224 by omega)]; rfl
    · rename_i c2
      rw [if_neg c2]
      split at h2
      · rename_i c3
        have a1 : ¬ (128 + r / 64 % 64 < if 224 + r / 4096 = 224 then 160 else 128) := by split <;> omega
        have a2 : ¬ (128 + r / 64 % 64 > if 224 + r / 4096 = 237 then 159 else 191) := by split <;> omega
        simp only [List.length_cons, List.length_nil] at h2
        rw [if_pos c3]
        obtain rfl | rfl : k = 1 ∨ k = 2 := by omega
        all_goals simp only [List.take, uNext, uLead, uTail, if_neg a1, if_neg a2, if_neg (show ¬ (224 + r / 4096 < 128) by omega), if_neg (show ¬ (224 + r / 4096 < 194) by omega), if_neg (show ¬ (224 + r / 4096 < 224) by omega), if_pos (show 224 + r / 4096 < 240 by omega)]; rfl
      · rename_i c3
        have a1 : ¬ (128 + r / 4096 % 64 < if 240 + r / 262144 = 240 then 144 else 128) := by split <;> omega
        have a2 : ¬ (128 + r / 4096 % 64 > if 240 + r / 262144 = 244 then 143 else 191) := by split <;> omega
        simp only [List.length_cons, List.length_nil] at h2
        rw [if_neg c3]
        obtain rfl | rfl | rfl : k = 1 ∨ k = 2 ∨ k = 3 := by omega
        all_goals simp only [List.take, uNext, uLead, uTail, if_neg a1, if_neg a2, if_neg (show ¬ (240 + r / 262144 < 128) by omega), if_neg (show ¬ (240 + r / 262144 < 194) by omega), if_neg (show ¬ (240 + r / 262144 < 224) by omega), if_neg (show ¬ (240 + r / 262144 < 240) by omega), if_pos (show 240 + r / 262144 < 245 by omega), if_neg (show ¬ (128 + r / 64 % 64 < 128) by omega), if_neg (show ¬ (128 + r / 64 % 64 > 191) by omega)]; rfl
theorem pt_one {r : Int} (h : (uPt r).length = 1) : r < 128 := by
  unfold uPt at h
  split at h
  · assumption
  · repeat' split at h
    all_goals simp at h
theorem enc_one {r : Int} (h : Scal r) : uEnc [r] = uPt r := by
  rw [encode_cons, fix_eq h, encode_nil, List.append_nil]

set_option maxHeartbeats 1000000 in
theorem cut_walk (n m : Int) (A0 : Option Addr) (c0 : Nat) (xs : List Int) (w : World) (hx : Kd.C (Kd.int .u8) w A0 xs.length xs) (hcx : xs.length ≤ c0) (bx : Byt xs) :
    Calls Try.prog 11 #[.int .i64 n, .int .i64 m, .slice A0 xs.length c0] w fun e w' => e = .returned (.bool true) ∧ Below w.heap.size w w' := by
  by_cases h1 : 60 < xs.length
  · have d1 : decide (60 < xs.length) = true := decide_eq_true h1
    go_enter Try.func11, Try.ntmps11
    go_wp2_with fail
    refine (awake_true w).mono ?_
    rintro e w1 ⟨rfl, hb⟩
    go_wp2_with fail
    go_ret
    exact ⟨rfl, hb⟩
  have d1 : decide (60 < xs.length) = false := decide_eq_false h1
  have hsc := uScal_ok n
  have hs0 : 0 ≤ uScal n := hsc.1
  have hs1 : uScal n ≤ 1114111 := hsc.2.1
  go_enter Try.func11, Try.ntmps11
  go_wp2_with fail
  refine (scalar_c n w).mono ?_
  rintro e w1 ⟨rfl, hb1⟩
  generalize uScal n = r at hsc hs0 hs1 ⊢
  have hx1 := Kd.C_below hx hb1
  clear hx
  go_wp2_with fail
  have k1 := encode_c (some ⟨w1.heap.size, 0, none⟩) 1 [r] _ (C_new .i32 w1 21 (0, 0) [r] (by simp)) (by simp) (R32.scal (by intro x hx; simp at hx; rw [hx]; exact hsc)) (by simp)
  rw [enc_one hsc] at k1
  refine k1.mono ?_
  clear k1
  rintro e w2 ⟨v2, rfl, ho2, hb2⟩
  have hx2 := Kd.C_below (Kd.C_below hx1 (below_alloc (Below.refl _ _) _)) hb2
  have hB2 := below_step hb1 (below_step (below_alloc (Below.refl _ _) _) hb2)
  have hl := @enc_len r
  have hpb := enc_byt hsc
  obtain ⟨A2, c2, rfl, hl2, hd2⟩ := Kd.R_reads ho2
  clear hx1 hb1 hb2 ho2
  have hn1 := Lib.hid (next_enc_app hsc xs)
  generalize hp : uPt r = p at *
  have hp := Lib.hid hp
  have hbase := Nat.le_refl w2.heap.size
  have hF := Kd.R_nil (Kd.int .u8) 5 w2 w2.heap.size (fun k => w2.heap.size ≤ k)
  have e1 : decide (p.length < 1) = false := decide_eq_false (by omega)
  have e2 : decide (4 < p.length) = false := decide_eq_false (by omega)
  go_wp2_with (first
      | (at_builtin; refine Kd.R_append_row (Value.int .u8) 0 (h1 := fun _ => rfl) (w0 := w2) w2.heap.size rfl _ _ 37 5 (.int .u8 0) 1 rfl Try.underlying37 info5 rfl (by decide) (.slice none 0 0) [] p A2 p.length c2 (fun k => w2.heap.size ≤ k) rfl rfl ?aF ?aO ?aR ?aB ?aS ?aL ?_; (case aF => exact fun k hk => hk); (case aO => exact hF); (case aR => exact hd2); (case aB => exact Below.refl _ _); (case aS => exact hbase); (case aL => simp only [List.length_nil]; omega); intro v3 w3 ho3 hb3 _ _; clear hF; rw [List.nil_append] at ho3; have hx3 := Kd.C_below hx2 hb3)
      | (at_builtin; refine Kd.R_append_row (Value.int .u8) 0 (h1 := fun _ => rfl) (w0 := w2) w2.heap.size rfl _ _ 37 5 (.int .u8 0) 1 rfl Try.underlying37 info5 rfl (by decide) v3 p xs A0 xs.length c0 (fun k => w2.heap.size ≤ k) rfl rfl ?aF ?aO ?aR ?aB ?aS ?aL ?_; (case aF => exact fun k hk => Nat.le_trans hb3.size hk); (case aO => exact ho3); (case aR => exact hx3); (case aB => exact hb3); (case aS => exact hb3.size); (case aL => omega); intro v4 w4 ho4 hb4 _ _; clear ho3 hx3))
  obtain ⟨A4, c4, rfl, hl4, hd4⟩ := Kd.R_reads ho4
  have k1 := next_c A4 c4 (p ++ xs) w4 hd4 hl4 (hpb.append bx) (by rw [List.length_append]; omega)
  rw [hn1.out] at k1
  refine k1.mono ?_
  clear k1
  rintro e w5 ⟨rfl, hb5⟩
  have hB5 := below_step hb4 hb5
  have hd5 := Kd.C_below hd2 hB5
  have hB := below_step hB2 hB5
  clear hb3 hb4 hb5 hB5 hB2 ho4 hd4 hl4 hx2 hd2
  by_cases h3 : p.length = 1
  · have h4 : r < 128 := pt_one (by rw [hp.out]; exact h3)
    have e4 : decide (r < 128) = true := decide_eq_true h4
    have h3 := Lib.hid h3
    have e3 : ((p.length : Int) == 1) = true := by rw [h3.out]; rfl
    go_wp2_with fail
    refine (awake_true w5).mono ?_
    rintro e w6 ⟨rfl, hb6⟩
    go_wp2_with fail
    go_ret
    exact ⟨rfl, below_step hB hb6⟩
  · have e3 : ((p.length : Int) == 1) = false := by rw [beq_eq_false_iff_ne]; omega
    go_wp2_with fail
    refine (low_c m ((p.length : Int) - 1) w5 (by omega) (by omega)).mono ?_
    rintro e w6 ⟨rfl, hb6⟩
    have hd6 := Kd.C_below hd5 hb6
    have hB6 := below_step hB hb6
    have hq := uLow_b m ((p.length : Int) - 1) (by omega)
    obtain ⟨q, hqq⟩ : ∃ q : Nat, uLow m ((p.length : Int) - 1) = q := ⟨(uLow m ((p.length : Int) - 1)).toNat, by omega⟩
    rw [hqq] at hq ⊢
    clear hqq hd5 hB hb6
    have hq1 : (q : Int) + 1 < (p.length : Int) := by omega
    have hq2 : (q : Int) + 1 ≤ (c2 : Int) := by omega
    go_wp2_with fail
    have nc := next_cut hsc (1 + q) (by omega) (by rw [hp.out]; omega)
    rw [hp.out, show ((1 + q : Nat) : Int) = 1 + (q : Int) by omega] at nc
    have hdt := Kd.C_take hd6 (show 1 + q ≤ p.length by omega)
    have k1 := next_c A2 c2 (p.take (1 + q)) w6 hdt (by rw [List.length_take]; omega) (hpb.take _) (by rw [List.length_take]; omega)
    rw [nc, List.length_take, Nat.min_eq_left (by omega)] at k1
    refine k1.mono ?_
    clear k1 nc hdt
    rintro e w7 ⟨rfl, hb7⟩
    have hB7 := below_step hB6 hb7
    go_wp2_with fail
    refine (awake_true w7).mono ?_
    rintro e w8 ⟨rfl, hb8⟩
    go_wp2_with fail
    go_ret
    exact ⟨rfl, below_step hB7 hb8⟩
theorem core_UtfCut (n m : Int) (A0 : Option Addr) (c0 : Nat) (xs : List Int) (w : World) (_hn : (Lit.int .i64 n).wf = true) (_hm : (Lit.int .i64 m).wf = true) (hx : Kd.C (Kd.int .u8) w A0 xs.length xs) (hcx : xs.length ≤ c0) (bx : ∀ x ∈ xs, (Lit.int .u8 x).wf = true) :
    Calls Try.prog 11 #[.int .i64 n, .int .i64 m, .slice A0 xs.length c0] w fun e w' => e = .returned (.bool true) ∧ Below w.heap.size w w' :=
  cut_walk n m A0 c0 xs w hx hcx (Byt.of_wf bx)

end Go.Proofs.Ytcoefbgnajaklaa.LinkUtfTells
