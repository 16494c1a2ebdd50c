/- Contracts of the calls, and the walk of the law UtfBack. Conditions: code points, as many as the law lets in. -/
import Derived.Test.YtcoefbgnajaklaaAUtfTells
import Derived.Test.YtcoefbgnajaklaaQD
import Derived.Lib.Hide
namespace Go.Proofs.Ytcoefbgnajaklaa.LinkUtfTells
open Go Go.RowKit Go.Proofs.Ytcoefbgnajaklaa Go.Proofs.Ytcoefbgnajaklaa.PUtfTells Go.Proofs.YtcoefbgnajaklaaW.PrintWords Go.Proofs.YtcoefbgnajaklaaW.PrintLast Go.Proofs.YtcoefbgnajaklaaW.PrintMore Go.Proofs.Ytcoefbgnajaklaa.Utf Go.Lib
set_option linter.unusedVariables false
set_option linter.unusedSimpArgs false
set_option maxRecDepth 100000
theorem rvalid_c (A : Option Addr) (c : Nat) (xs : List Int) (w : World) (hC : Kd.C (Kd.int .u8) w A xs.length xs) (hc : xs.length ≤ c) (hb : Byt xs) (hl : xs.length ≤ 1000000) :
    Calls Try.prog 23 #[.slice A xs.length c] w fun e w' => e = .returned (.bool (uValid xs)) ∧ Below w.heap.size w w' :=
  (gossamerref1_Valid.calls (xs.length + 9) A c xs _ w hC hc (rvalid_ok xs hb (by omega) _ (by omega))).mono fun e w' h => ⟨h.1, h.2.below⟩
theorem runes_c (A A' : Option Addr) (c c' : Nat) (xs ys : List Int) (w : World) (hC : Kd.C (Kd.int .i32) w A xs.length xs) (hc : xs.length ≤ c) (hC' : Kd.C (Kd.int .i32) w A' ys.length ys) (hc' : ys.length ≤ c') (hl : xs.length ≤ 1000000) :
    Calls Try.prog 33 #[.slice A xs.length c, .slice A' ys.length c'] w fun e w' => e = .returned (.bool (decide (xs = ys))) ∧ Below w.heap.size w w' :=
  (gossamerlaw0_Runes.calls (xs.length + 1) A c xs A' c' ys _ w hC hc hC' hc' (runes_ok xs ys (by omega) _ (by omega))).mono fun e w' h => ⟨h.1, h.2.below⟩

section
variable (y : Int)
theorem i32_or192 (h₀ : 0 ≤ y) (h₁ : y < 32) : bits .or .i32 192 y = 192 + y :=
  bits_join .i32 31 (by decide) wraps_i32 5 192 y (by decide) (by decide) (by decide) h₀ h₁ (by omega)
theorem i32_or224 (h₀ : 0 ≤ y) (h₁ : y < 16) : bits .or .i32 224 y = 224 + y :=
  bits_join .i32 31 (by decide) wraps_i32 4 224 y (by decide) (by decide) (by decide) h₀ h₁ (by omega)
theorem i32_or240 (h₀ : 0 ≤ y) (h₁ : y < 8) : bits .or .i32 240 y = 240 + y :=
  bits_join .i32 31 (by decide) wraps_i32 3 240 y (by decide) (by decide) (by decide) h₀ h₁ (by omega)
theorem i32_or128 (h₀ : 0 ≤ y) (h₁ : y < 64) : bits .or .i32 128 y = 128 + y :=
  bits_join .i32 31 (by decide) wraps_i32 6 128 y (by decide) (by decide) (by decide) h₀ h₁ (by omega)
theorem i32_and63 (h₀ : 0 ≤ y) (h₁ : y < 2147483648) : bits .and .i32 y 63 = y % 64 :=
  bits_mask .i32 31 (by decide) wraps_i32 6 (by decide) y h₀ (by omega)
end
theorem bytes_ok (r : Int) (k : Nat) (hk : 1 ≤ k) : gossamerref1_Bytes.f k r = some (uPt (uFix r)) := by
  obtain ⟨k, rfl⟩ : ∃ m, k = m + 1 := ⟨k - 1, by omega⟩
  have bad : uPt 65533 = [239, 191, 189] := by decide
  have t1 : ∀ x : Int, gossamerref1_Bytes.j0 (k + 1) x true = some [239, 191, 189] := fun x => by simp only [gossamerref1_Bytes.j0]; rfl
  have t2 : ∀ x : Int, 0 ≤ x → x ≤ 1114111 → gossamerref1_Bytes.j0 (k + 1) x false = some (uPt x) := by
    intro x h0 h1
    simp only [gossamerref1_Bytes.j0]
    unfold uPt
    rw [if_neg (by simp)]
    by_cases c1 : x ≤ 127
    · rw [if_pos c1, if_pos (by omega), show x % 256 = x by omega]
    · rw [if_neg c1, if_neg (show ¬ x < 128 by omega)]
      by_cases c2 : x ≤ 2047
      · rw [if_pos c2, if_pos (show x < 2048 by omega), i32_or192 _ (by omega) (by omega), i32_and63 _ (by omega) (by omega), i32_or128 _ (by omega) (by omega), show (192 + x / 64) % 256 = 192 + x / 64 by omega, show (128 + x % 64) % 256 = 128 + x % 64 by omega]
      · rw [if_neg c2, if_neg (show ¬ x < 2048 by omega)]
        by_cases c3 : x ≤ 65535
        · rw [if_pos c3, if_pos (show x < 65536 by omega), i32_or224 _ (by omega) (by omega), i32_and63 (x / 64) (by omega) (by omega), i32_and63 x (by omega) (by omega), i32_or128 _ (by omega) (by omega), i32_or128 _ (by omega) (by omega), show (224 + x / 4096) % 256 = 224 + x / 4096 by omega, show (128 + x / 64 % 64) % 256 = 128 + x / 64 % 64 by omega, show (128 + x % 64) % 256 = 128 + x % 64 by omega]
        · rw [if_neg c3, if_neg (show ¬ x < 65536 by omega), i32_or240 _ (by omega) (by omega), i32_and63 (x / 4096) (by omega) (by omega), i32_and63 (x / 64) (by omega) (by omega), i32_and63 x (by omega) (by omega), i32_or128 _ (by omega) (by omega), i32_or128 _ (by omega) (by omega), i32_or128 _ (by omega) (by omega), show (240 + x / 262144) % 256 = 240 + x / 262144 by omega, show (128 + x / 4096 % 64) % 256 = 128 + x / 4096 % 64 by omega, show (128 + x / 64 % 64) % 256 = 128 + x / 64 % 64 by omega, show (128 + x % 64) % 256 = 128 + x % 64 by omega]
  unfold gossamerref1_Bytes.f uFix
  by_cases c1 : r < 0
  · rw [if_pos c1, if_pos c1, t1, bad]
  · rw [if_neg c1, if_neg c1]
    by_cases c2 : r > 1114111
    · rw [if_pos c2, if_pos c2, t1, bad]
    · rw [if_neg c2, if_neg c2]
      by_cases c3 : r ≥ 55296
      · rw [if_pos c3]
        by_cases c4 : r ≤ 57343
        · rw [decide_eq_true c4, t1, if_pos ⟨c3, c4⟩, bad]
        · rw [decide_eq_false c4, t2 r (by omega) (by omega), if_neg (by omega)]
      · rw [if_neg c3, t2 r (by omega) (by omega), if_neg (by omega)]
theorem bytes_c (r : Int) (w : World) :
    Calls Try.prog 28 #[.int .i32 r] w fun e w' => ∃ v, e = .returned v ∧ Kd.R (Kd.int .u8) 5 w' w.heap.size (fun _ => True) v (uPt (uFix r)) ∧ Below w.heap.size w w' :=
  gossamerref1_Bytes.calls 1 r _ w (bytes_ok r 1 (by omega))

theorem rencode_l0 (rs : List Int) (hl : rs.length ≤ 1000000000) : ∀ (n : Nat) (i : Nat) (acc : List Int) (k : Nat), rs.length = i + n → acc.length ≤ 4 * i → n + 4 ≤ k → gossamerref1_Encode.l0 k rs acc i = some (acc ++ uEnc (rs.drop i))
  | 0, i, acc, k, hn, ha, hk => by
    obtain ⟨k, rfl⟩ : ∃ q, k = q + 1 := ⟨k - 1, by omega⟩
    simp only [gossamerref1_Encode.l0]
    rw [if_neg (by omega), List.drop_eq_nil_of_le (by omega), encode_nil, List.append_nil]
  | n + 1, i, acc, k, hn, ha, hk => by
    obtain ⟨k, rfl⟩ : ∃ q, k = q + 1 := ⟨k - 1, by omega⟩
    simp only [gossamerref1_Encode.l0]
    have h4 := @enc_len (uFix (rd rs (i : Int)))
    rw [if_pos (by omega), if_pos (by omega), bytes_ok _ k (by omega)]
    simp only [Option.bind_some]
    rw [if_pos (by omega), w64 (by omega) (by omega)]
    have := rencode_l0 rs hl n (i + 1) (acc ++ uPt (uFix (rd rs (i : Int)))) k (by omega) (by simp only [List.length_append]; omega) (by omega)
    rw [Int.natCast_add] at this
    refine this.trans ?_
    rw [rd_drop rs i (by omega), encode_cons, List.append_assoc]
theorem rencode_c (A : Option Addr) (c : Nat) (rs : List Int) (w : World) (hC : Kd.C (Kd.int .i32) w A rs.length rs) (hc : rs.length ≤ c) (hl : rs.length ≤ 1000000) :
    Calls Try.prog 37 #[.slice A rs.length c] w fun e w' => ∃ v, e = .returned v ∧ Kd.R (Kd.int .u8) 5 w' w.heap.size (fun _ => True) v (uEnc rs) ∧ Below w.heap.size w w' :=
  gossamerref1_Encode.calls (rs.length + 4) A c rs _ w hC hc (rencode_l0 rs (by omega) rs.length 0 [] _ (by omega) (by simp) (by omega))

/-- After i rounds: the first i are mended. -/
def mend (rs : List Int) (i : Nat) : List Int := (rs.take i).map uFix ++ rs.drop i
theorem mend_len (rs : List Int) (i : Nat) : (mend rs i).length = rs.length := by
  unfold mend; simp only [List.length_append, List.length_map, List.length_take, List.length_drop]; omega
theorem mend_zero (rs : List Int) : mend rs 0 = rs := by simp [mend]
theorem mend_all (rs : List Int) : mend rs rs.length = rs.map uFix := by simp [mend]
theorem mend_rd (rs : List Int) (i : Nat) (h : i < rs.length) : rd (mend rs i) (i : Int) = rd rs (i : Int) := by
  unfold rd mend
  rw [Int.toNat_natCast, List.getD_eq_getElem?_getD, List.getD_eq_getElem?_getD, List.getElem?_append_right (by simp; omega)]
  simp [Nat.min_eq_left (Nat.le_of_lt h)]
theorem mend_step (rs : List Int) (i : Nat) (h : i < rs.length) : (mend rs i).set i (uFix (rd rs (i : Int))) = mend rs (i + 1) := by
  unfold mend
  have e : (List.map uFix (List.take i rs)).length = i := by simp; omega
  have e2 : rd rs (i : Int) = rs[i] := by unfold rd; simp [h]
  rw [List.set_append_right _ _ (by omega), e, Nat.sub_self, rd_drop rs i h, List.set_cons_zero, List.take_succ_eq_append_getElem h, List.map_append, e2]
  simp
theorem mend_same (rs : List Int) (i : Nat) (h : i < rs.length) (hf : uFix (rd rs (i : Int)) = rd rs (i : Int)) : mend rs (i + 1) = mend rs i := by
  rw [← mend_step rs i h, hf]
  have e := mend_rd rs i h
  have hl : i < (mend rs i).length := by rw [mend_len]; exact h
  have e2 : (mend rs i)[i] = rd rs (i : Int) := by rw [← e]; unfold rd; simp [hl]
  rw [← e2]
  exact List.set_getElem_self hl

set_option maxHeartbeats 2000000 in
theorem back_walk (A0 : Option Addr) (c0 : Nat) (xs : List Int) (w : World) (hx : Kd.C (Kd.int .i32) w A0 xs.length xs) (hcx : xs.length ≤ c0) (bx : R32 xs) :
    Calls Try.prog 9 #[.slice A0 xs.length c0] w fun e w' => e = .returned (.bool true) ∧ Below w.heap.size w w' := by
  by_cases h1 : 200 < xs.length
  · have d1 : decide (200 < xs.length) = true := decide_eq_true h1
    go_enter Try.func9, Try.ntmps9
    go_wp2_with fail
    refine (awake_true w).mono ?_
    rintro e w1 ⟨rfl, hb⟩
    go_wp2_with fail
    go_ret
    exact ⟨rfl, hb⟩
  have d1 : decide (200 < xs.length) = false := decide_eq_false h1
  have le := encode_len xs
  have be := encode_byt xs
  have hv := Lib.hid (valid_encode' xs)
  have hd := Lib.hid (decode_encode' xs)
  go_enter Try.func9, Try.ntmps9
  go_wp2_with fail
  refine (encode_c A0 c0 xs w hx hcx bx (by omega)).mono ?_
  rintro e w1 ⟨v1, rfl, ho1, hB1⟩
  obtain ⟨A1, c1, rfl, hl1, hd1⟩ := Kd.R_reads ho1
  have hx1 := Kd.C_below hx hB1
  clear hx ho1
  have hfin := Lib.hid (show uEnc xs = uEnc xs from rfl)
  generalize hp : uEnc xs = p at *
  have hp := Lib.hid hp
  clear hfin
  go_upto_region 4 with (fail)
  go_cut [22] (fun v22 wc => v22 = .bool false ∧ Aside0 (Below w1.heap.size w1 wc))
  case first =>
    have f1 := Kd.C_string (c := c1) Try.underlying37 Try.underlying5 Try.underlying9 (Kd.C_drew hd1)
    go_region_with (first
      | (go_at_call 37; have k1 := rencode_c A0 c0 xs _ (Kd.C_drew hx1) hcx (by omega); rw [hp.out] at k1; refine k1.mono ?_; rintro e w2 ⟨v2, rfl, ho2, hb2⟩; obtain ⟨A2, c2, rfl, hl2, hd2⟩ := Kd.R_reads ho2; have f1 := Kd.C_string (c := c1) Try.underlying37 Try.underlying5 Try.underlying9 (Kd.C_below (Kd.C_drew hd1) hb2); have f2 := Kd.C_string (c := c2) Try.underlying37 Try.underlying5 Try.underlying9 hd2)
      | (go_at_call 32; have k1 := valid_c A1 c1 p _ (Kd.C_below (Kd.C_drew hd1) hb2) hl1 be (by omega); rw [hv.out] at k1; refine k1.mono ?_; rintro e w3 ⟨rfl, hb3⟩; have hB3 := below_step (below_step (below_drew1 (Below.refl _ w1)) hb2) hb3))
    all_goals (go_wp2; go_meet; case rel => exact ⟨rfl, ⟨hB3⟩⟩)
  case rest =>
    obtain ⟨rfl, ⟨hb⟩⟩ := hcut
    have hB1' := below_step hB1 hb
    have hx2 := Kd.C_below hx1 hb
    have hd2 := Kd.C_below hd1 hb
    clear hx1 hd1 hB1 hb
    have hF := Kd.R_nil (Kd.int .i32) 21 wc wc.heap.size (fun k => wc.heap.size ≤ k)
    have hbase := Nat.le_refl wc.heap.size
    go_wp2_with (at_builtin; refine Kd.R_append_row (Value.int .i32) 0 (h1 := fun _ => rfl) (w0 := wc) wc.heap.size rfl _ _ 49 21 (.int .i32 0) 4 rfl Try.underlying49 info21 rfl (by decide) (.slice none 0 0) [] xs A0 xs.length c0 (fun k => wc.heap.size ≤ k) rfl rfl ?aF ?aO ?aR ?aB ?aS ?aL ?_; (case aF => exact fun k hk => hk); (case aO => exact hF); (case aR => exact hx2); (case aB => exact Below.refl _ _); (case aS => exact hbase); (case aL => simp only [List.length_nil]; omega); intro v3 w3 ho3 hb3 _ _; clear hF; rw [List.nil_append] at ho3)
    obtain ⟨A3, c3, rfl, hl3, -⟩ := Kd.R_reads ho3
    rw [← mend_zero xs] at ho3
    have ho3 := Aside0.mk ho3
    have hb3 := Aside0.mk hb3
    go_loopw [5] (fun i w' => ∃ k : Nat, k ≤ xs.length ∧ i = .int .i64 k ∧ Aside0 (Kd.R (Kd.int .i32) 21 w' wc.heap.size (fun k => wc.heap.size ≤ k) (.slice A3 xs.length c3) (mend xs k)) ∧ Aside0 (Below wc.heap.size wc w')) (fun i _ => xs.length - (intOf i).toNat)
    case atStart => exact ⟨0, Nat.zero_le _, rfl, ho3, hb3⟩
    case round =>
      clear ho3 hb3
      obtain ⟨k, hk, rfl, ho, hb⟩ := hrel
      by_cases hlt : k < xs.length
      · have hm := mend_len xs k
        obtain ⟨g, cap, hv, hg1, hg2, cells, hcells⟩ := Kd.R_form ho.out (by rw [mend_len]; omega)
        rw [mend_len] at hv
        injection hv with hv1 hv2 hv3
        subst hv1 hv3
        have ho' := ho.out
        rw [← mend_len xs k] at ho'
        have hc := Kd.R_cell (0 : Int) ho' (k : Int) (by omega) (by rw [mend_len]; omega)
        have er : rdOf (0 : Int) (mend xs k) (k : Int) = rd xs (k : Int) := mend_rd xs k hlt
        rw [er, Int.toNat_natCast] at hc
        obtain ⟨hcell, hfr⟩ := hc
        clear ho' hcells er
        have st := mend_step xs k hlt
        have sm := mend_same xs k hlt
        generalize rd xs (k : Int) = x at hcell st sm
        have dlt : decide ((k : Int) < (xs.length : Int)) = true := decide_eq_true (by omega)
        by_cases b1 : x < 0
        · have e1 : uFix x = 65533 := by unfold uFix; rw [if_pos b1]
          rw [e1] at st
          have st := Lib.hid st
          clear sm e1
          have dx : decide (x < 0) = true := decide_eq_true b1
          go_wp2
          have hR := (Kd.R_put (by rw [mend_len]; exact ho.out) (k : Int) (65533 : Int)).1
          rw [Int.toNat_natCast, st.out, mend_len] at hR
          exact ⟨⟨k + 1, by omega, by go_num, ⟨hR⟩, ⟨below_set hb.out hg1⟩⟩, by simp [intOf]; omega⟩
        by_cases b2 : 1114111 < x
        · have e1 : uFix x = 65533 := by unfold uFix; rw [if_neg b1, if_pos b2]
          rw [e1] at st
          have st := Lib.hid st
          clear sm e1
          have dx : decide (x < 0) = false := decide_eq_false b1
          have dy : decide (1114111 < x) = true := decide_eq_true b2
          go_wp2
          have hR := (Kd.R_put (by rw [mend_len]; exact ho.out) (k : Int) (65533 : Int)).1
          rw [Int.toNat_natCast, st.out, mend_len] at hR
          exact ⟨⟨k + 1, by omega, by go_num, ⟨hR⟩, ⟨below_set hb.out hg1⟩⟩, by simp [intOf]; omega⟩
        have dx : decide (x < 0) = false := decide_eq_false b1
        have dy : decide (1114111 < x) = false := decide_eq_false b2
        by_cases b3 : 55296 ≤ x
        · have dz : decide (55296 ≤ x) = true := decide_eq_true b3
          by_cases b4 : x ≤ 57343
          · have e1 : uFix x = 65533 := by unfold uFix; rw [if_neg b1, if_neg b2, if_pos ⟨b3, b4⟩]
            rw [e1] at st
            have st := Lib.hid st
            clear sm e1
            have du : decide (x ≤ 57343) = true := decide_eq_true b4
            go_wp2
            have hR := (Kd.R_put (by rw [mend_len]; exact ho.out) (k : Int) (65533 : Int)).1
            rw [Int.toNat_natCast, st.out, mend_len] at hR
            exact ⟨⟨k + 1, by omega, by go_num, ⟨hR⟩, ⟨below_set hb.out hg1⟩⟩, by simp [intOf]; omega⟩
          · have sm := Lib.hid (sm (by unfold uFix; rw [if_neg b1, if_neg b2, if_neg (by omega)]))
            clear st
            have du : decide (x ≤ 57343) = false := decide_eq_false b4
            go_wp2
            exact ⟨⟨k + 1, by omega, by go_num, ⟨by rw [sm.out]; exact ho.out⟩, ⟨hb.out⟩⟩, by simp [intOf]; omega⟩
        · have sm := Lib.hid (sm (by unfold uFix; rw [if_neg b1, if_neg b2, if_neg (by omega)]))
          clear st
          have dz : decide (55296 ≤ x) = false := decide_eq_false b3
          go_wp2
          exact ⟨⟨k + 1, by omega, by go_num, ⟨by rw [sm.out]; exact ho.out⟩, ⟨hb.out⟩⟩, by simp [intOf]; omega⟩
      · obtain rfl : k = xs.length := by omega
        have dlt : decide ((xs.length : Int) < (xs.length : Int)) = false := decide_eq_false (by omega)
        have ho3 := ho.out
        rw [mend_all] at ho3
        obtain ⟨A4, c4, hv, hl4, hd4⟩ := Kd.R_reads ho3
        injection hv with hv1 hv2 hv3
        subst hv1 hv3
        clear hv2
        rw [List.length_map] at hl4 hd4
        have hb4 := hb.out
        have hd5 := Kd.C_below hd2 hb4
        have hB5 := below_step hB1' hb4
        clear ho ho3 hb hb4 hx2 hd2 hB1'
        go_wp2_with fail
        have k1 := decode_c A1 c1 p _ hd5 hl1 be (by omega)
        rw [hd.out] at k1
        refine k1.mono ?_
        clear k1
        rintro e w5 ⟨v5, rfl, ho5, hb5⟩
        obtain ⟨A5, c5, rfl, hl5, hd6⟩ := Kd.R_reads ho5
        have hd7 := Kd.C_below hd4 hb5
        have hB6 := below_step hB5 hb5
        clear ho5 hd4 hd5 hb5 hB5
        go_wp2_with fail
        have k1 := runes_c A5 A3 c5 c3 (xs.map uFix) (xs.map uFix) w5 hd6 hl5 (by rw [List.length_map]; exact hd7) (by rw [List.length_map]; exact hl4) (by rw [List.length_map]; omega)
        rw [decide_eq_true rfl, List.length_map] at k1
        refine k1.mono ?_
        clear k1
        rintro e w6 ⟨rfl, hb6⟩
        go_wp2_with fail
        refine (awake_true w6).mono ?_
        rintro e w7 ⟨rfl, hb7⟩
        go_wp2_with fail
        go_ret
        exact ⟨rfl, below_step (below_step hB6 hb6) hb7⟩
theorem core_UtfBack (A0 : Option Addr) (c0 : Nat) (xs : List Int) (w : World) (hx : Kd.C (Kd.int .i32) w A0 xs.length xs) (hcx : xs.length ≤ c0) (bx : ∀ x ∈ xs, (Lit.int .i32 x).wf = true) :
    Calls Try.prog 9 #[.slice A0 xs.length c0] w fun e w' => e = .returned (.bool true) ∧ Below w.heap.size w w' :=
  back_walk A0 c0 xs w hx hcx (R32.of_wf bx)

end Go.Proofs.Ytcoefbgnajaklaa.LinkUtfTells
