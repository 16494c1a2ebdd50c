/- The functions of pct and of its reference come to the same plain functions; the walk of the law PctTells. Conditions: a text as long as the law lets in. -/
import Derived.Test.YtdbihmkeljakeaaLPctTells
import Derived.Test.YtdbihmkeljakeaaLPctB
import Derived.Test.YtdbihmkeljakeaaLPctC
import Derived.Test.YtdbihmkeljakeaaLPctD
import Derived.Test.YtdbihmkeljakeaaSh
import Derived.Lib.Hide
import Derived.Test.YtdbihmkeljakeaaPPctTellsx1
import Derived.Test.YtdbihmkeljakeaaPPctTellsx5
import Derived.Test.YtdbihmkeljakeaaPPctTellsx6
namespace Go.Proofs.Ytdbihmkeljakeaa.LinkPctTells
open Go Go.RowKit Go.Proofs.Ytdbihmkeljakeaa Go.Proofs.Ytdbihmkeljakeaa.PPctTells Go.Proofs.YtdbihmkeljakeaaW.PrintWords Go.Proofs.YtdbihmkeljakeaaW.PrintLast Go.Proofs.YtdbihmkeljakeaaW.PrintMore Go.Proofs.Ytdbihmkeljakeaa.Utf Go.Lib
set_option linter.unusedVariables false
set_option linter.unusedSimpArgs false
set_option maxRecDepth 100000
theorem rdecode_c (A : Option Addr) (c : Nat) (xs : List Int) (w : World) (hC : Kd.C (Kd.int .u8) w A xs.length xs) (hc : xs.length ≤ c) (hb : Byt xs) (hl : xs.length ≤ 1000000) :
    Calls Try.prog 19 #[.slice A xs.length c] w fun e w' => ∃ v, e = .returned v ∧ Kd.R (Kd.int .i32) 21 w' w.heap.size (fun _ => True) v (uDec xs) ∧ Below w.heap.size w w' :=
  gossamerref1_Decode.calls (xs.length + 9) A c xs _ w hC hc (rdecode_ok xs hb (by omega) _ (by omega))

theorem rhex_f (c : Int) (h0 : 0 ≤ c) (h1 : c < 256) : gossamerref4_Hex.f c = some (strOfNums (hexE c)) := by
  unfold gossamerref4_Hex.f
  rw [u8_and15 c h0 h1, if_pos (by omega), if_pos (by omega), if_pos (by omega), if_pos (by omega)]
  rfl
theorem rhex_c (c : Int) (w : World) (h0 : 0 ≤ c) (h1 : c < 256) : Calls Try.prog 30 #[.int .u8 c] w fun e w' => e = .returned (.string (strOfNums (hexE c))) ∧ Below w.heap.size w w' :=
  gossamerref4_Hex.calls c _ w (rhex_f c h0 h1)
theorem str_app (xs ys : List Int) : strOfNums xs ++ strOfNums ys = strOfNums (xs ++ ys) := by
  apply ByteArray.ext
  simp [strOfNums]

theorem str_size (xs : List Int) : (strOfNums xs).size = xs.length := by simp [strOfNums, ByteArray.size]
set_option maxHeartbeats 4000000 in
theorem rpencode_c (s : ByteArray) (set : Int) (w : World) (hs : s.size ≤ 1000000) :
    Calls Try.prog 15 #[.string s, .int .i64 set] w fun e w' => e = .returned (.string (strOfNums (pe set (uDec (bs s))))) ∧ Below w.heap.size w w' := by
  have kc := fun (w : World) (s : ByteArray) => print_bytes (P := Try.prog) 9 27 5 Try.underlying9 Try.underlying27 Try.underlying5 s w
  have ld := decode_len _ (bs s) (Nat.le_refl _)
  have hl := bs_len s
  rw [hl] at ld
  have h32 := decode_r32 (bs_byt s)
  have k1 := rdecode_c (some ⟨w.heap.size, 0, none⟩) (grownCap w s.size 0 5) (bs s) (bytesWorld w 5 s) (bs_C w s (by omega)) (by rw [hl]; exact grownCap_ge _ _ _ _) (bs_byt s) (by omega)
  have hB := bs_below w s
  rw [hl] at k1
  generalize hds : uDec (bs s) = ds at *
  have k1 := Lib.hid k1
  have hl := Lib.hid hl
  have hds := Lib.hid hds
  go_enter Try.func15, Try.ntmps15
  go_wp2_with fail
  refine k1.out.mono ?_
  rintro e w1 ⟨v1, rfl, ho1, hb1'⟩
  obtain ⟨A1, c1, rfl, hl1, hd1⟩ := Kd.R_reads ho1
  have hB1 := Aside0.mk (below_step hB hb1')
  clear ho1 hb1' hB kc
  have hd1 := Aside0.mk hd1
  go_wp2_with fail
  go_loopw [5, 7] (fun o i W => ∃ k : Nat, k ≤ ds.length ∧ i = .int .i64 k ∧ o = .string (strOfNums (pe set (ds.take k))) ∧ Aside0 (Kd.C (Kd.int .i32) W A1 ds.length ds) ∧ Aside0 (Below w.heap.size w W)) (fun _ i _ => ds.length - (RowKit.intOf i).toNat)
  case atStart => exact ⟨0, Nat.zero_le _, rfl, rfl, hd1, hB1⟩
  case round =>
    clear hd1 hB1
    obtain ⟨w', hw'⟩ : ∃ x, x = wr := ⟨_, rfl⟩
    subst hw'
    obtain ⟨k, hk, rfl, rfl, hd, hb⟩ := hrel
    by_cases hlt : k < ds.length
    · have hsn := pe_take set ds k hlt
      obtain ⟨ad, hA, hcell⟩ := Kd.at_int hd.out (k : Int) (by omega) (by omega)
      rw [Int.toNat_natCast] at hcell
      cases hA
      have hr32 : -2147483648 ≤ rd ds (k : Int) ∧ rd ds (k : Int) < 2147483648 := h32 _ (by unfold rd; simp [hlt])
      have kb := fun w => bytes_c (rd ds (k : Int)) w
      generalize hrr : rd ds (k : Int) = r at *
      have hrr := Lib.hid hrr
      have e1 : uPt (uFix r) = uEnc [r] := by rw [encode_cons, encode_nil, List.append_nil]
      rw [e1] at kb
      have kb := Lib.hid kb
      clear e1
      have dlt : decide ((k : Int) < (ds.length : Int)) = true := decide_eq_true (by omega)
      have hsn := Lib.hid hsn
      go_wp2_with fail
      refine (kb.out w').mono ?_
      rintro e w2 ⟨v2, rfl, ho2, h2⟩
      obtain ⟨A2, q2, rfl, -, hc2⟩ := Kd.R_reads ho2
      have hd2 := Kd.C_below hd.out h2
      have hb2 := below_step hb.out h2
      clear ho2 h2 hd hb kb
      obtain ⟨ad2, hA2, hcell2⟩ := Kd.at_int hd2 (k : Int) (by omega) (by omega)
      cases hA2
      rw [Int.toNat_natCast, hrr.out] at hcell2
      have hph : ph set r = if pin set r = true then (uEnc [r]).flatMap hexE else uEnc [r] := rfl
      have hcb := encode_byt [r]
      have hl4 := enc1_len r
      have kin := fun w => rin_c set r w
      generalize uEnc [r] = cs at *
      have kin := Lib.hid kin
      have z1 : (strOfNums (pe set (ds.take k))).size ≤ 12000000 := by
        have h1 := pe_len set (ds.take k)
        rw [List.length_take, Nat.min_eq_left hk] at h1
        rw [str_size]; omega
      have z2 : (strOfNums cs).size ≤ 4 := by rw [str_size]; exact hl4
      go_wp2_with fail
      refine (kin.out w2).mono ?_
      rintro e w3 ⟨rfl, h3⟩
      have hd3 := Aside0.mk (Kd.C_below hd2 h3)
      have hc3 := Kd.C_below hc2 h3
      have hb3 := Aside0.mk (below_step hb2 h3)
      clear h3 hd2 hb2 hc2
      by_cases hin : pin set r = true
      · rw [if_pos hin] at hph
        have hph := Lib.hid hph
        rw [hin]
        clear hin
        go_wp2_with fail
        have hc3 := Aside0.mk hc3
        go_loopw [5, 9] (fun o j W => ∃ m : Nat, m ≤ cs.length ∧ j = .int .i64 m ∧ o = .string (strOfNums (pe set (ds.take k) ++ (cs.take m).flatMap hexE)) ∧ Aside0 (Kd.C (Kd.int .i32) W (some ad) ds.length ds) ∧ Aside0 (Kd.C (Kd.int .u8) W A2 cs.length cs) ∧ Aside0 (Below w.heap.size w W)) (fun _ j _ => cs.length - (RowKit.intOf j).toNat)
        case atStart => exact ⟨0, Nat.zero_le _, rfl, by simp, hd3, hc3, hb3⟩
        case round =>
          clear hd3 hc3 hb3
          obtain ⟨W, hW⟩ : ∃ x, x = wr := ⟨_, rfl⟩
          subst hW
          obtain ⟨m, hm, rfl, rfl, hd, hc, hb⟩ := hrel
          by_cases hlt2 : m < cs.length
          · have hsn2 := flat_take (f := hexE) cs m hlt2
            obtain ⟨ad3, hA3, hcell3⟩ := Kd.at_int hc.out (m : Int) (by omega) (by omega)
            rw [Int.toNat_natCast] at hcell3
            cases hA3
            have hc8 := rd_byt hcb m hlt2
            generalize rd cs (m : Int) = c at *
            have z3 : (strOfNums (pe set (ds.take k) ++ (cs.take m).flatMap hexE)).size ≤ 12000012 := by
              have h2 := flat_len hexE 3 (cs.take m) (fun x _ => by simp [hexE])
              rw [List.length_take, Nat.min_eq_left hm] at h2
              rw [str_size] at *
              rw [List.length_append]; omega
            have z4 : (strOfNums (hexE c)).size ≤ 3 := by rw [str_size]; simp [hexE]
            have kh := Lib.hid (rhex_c c W hc8.1 hc8.2)
            have hsn2 := Lib.hid hsn2
            have dlt2 : decide ((m : Int) < (cs.length : Int)) = true := decide_eq_true (by omega)
            go_wp2_with fail
            refine kh.out.mono ?_
            rintro e w4 ⟨rfl, h4⟩
            go_wp2
            exact ⟨⟨m + 1, by omega, by go_num, by rw [hsn2.out, ← List.append_assoc, str_app], ⟨Kd.C_below hd.out h4⟩, ⟨Kd.C_below hc.out h4⟩, ⟨below_step hb.out h4⟩⟩, by simp [RowKit.intOf]; omega⟩
          · have dlt2 : decide ((m : Int) < (cs.length : Int)) = false := decide_eq_false (by omega)
            have e : cs.take m = cs := List.take_of_length_le (by omega)
            rw [e, ← hph.out, ← hsn.out]
            clear e
            go_wp2
            exact ⟨⟨k + 1, by omega, by go_num, rfl, hd, hb⟩, by simp [RowKit.intOf]; omega⟩
      · rw [if_neg hin] at hph
        have hin : pin set r = false := by simpa using hin
        have hph := Lib.hid hph
        rw [hin]
        clear hin
        have hsc := Kd.C_string (c := q2) Try.underlying27 Try.underlying5 Try.underlying9 hc3
        go_wp2
        exact ⟨⟨k + 1, by omega, by go_num, by rw [hsn.out, hph.out, ← str_app], hd3, hb3⟩, by simp [RowKit.intOf]; omega⟩
    · have dlt : decide ((k : Int) < (ds.length : Int)) = false := decide_eq_false (by omega)
      have e : ds.take k = ds := List.take_of_length_le (by omega)
      rw [e]
      clear e
      have hb := hb.out
      go_wp2
      go_ret
      exact ⟨rfl, hb⟩

theorem rdigit_f (c : Int) (h0 : 0 ≤ c) (h1 : c < 256) (k : Nat) (hk : 3 ≤ k) : gossamerref4_Digit.f k c = some (hd c) := by
  obtain ⟨k, rfl⟩ : ∃ q, k = q + 2 := ⟨k - 2, by omega⟩
  unfold gossamerref4_Digit.f
  by_cases a1 : 48 ≤ c
  · rw [if_pos (show c ≥ 48 from a1)]
    by_cases a2 : c ≤ 57
    · have e : hd c = c - 48 := by unfold hd; rw [if_pos ⟨a1, a2⟩]
      have e3 : (c - 48) % 256 = c - 48 := by omega
      rw [e, decide_eq_true a2]
      simp [gossamerref4_Digit.j0, e3]
    · by_cases a3 : 97 ≤ c
      · by_cases a4 : c ≤ 102
        · have e : hd c = c - 87 := by unfold hd; rw [if_neg (by omega), if_pos ⟨a3, a4⟩]
          have e3 : (c - 97) % 256 + 10 = c - 87 := by omega
          rw [e, decide_eq_false a2]
          simp [gossamerref4_Digit.j0, gossamerref4_Digit.j1, a3, a4, e3]
        · have e : hd c = -1 := by unfold hd; rw [if_neg (by omega), if_neg (by omega), if_neg (by omega)]
          have a6 : ¬ c ≤ 70 := by omega
          rw [e, decide_eq_false a2]
          simp [gossamerref4_Digit.j0, gossamerref4_Digit.j1, a3, a4, a6]
      · by_cases a5 : 65 ≤ c
        · by_cases a6 : c ≤ 70
          · have e : hd c = c - 55 := by unfold hd; rw [if_neg (by omega), if_neg (by omega), if_pos ⟨a5, a6⟩]
            have e3 : (c - 65) % 256 + 10 = c - 55 := by omega
            rw [e, decide_eq_false a2]
            simp [gossamerref4_Digit.j0, gossamerref4_Digit.j1, a3, a5, a6, e3]
          · have e : hd c = -1 := by unfold hd; rw [if_neg (by omega), if_neg (by omega), if_neg (by omega)]
            rw [e, decide_eq_false a2]
            simp [gossamerref4_Digit.j0, gossamerref4_Digit.j1, a3, a5, a6]
        · have e : hd c = -1 := by unfold hd; rw [if_neg (by omega), if_neg (by omega), if_neg (by omega)]
          rw [e, decide_eq_false a2]
          simp [gossamerref4_Digit.j0, gossamerref4_Digit.j1, a3, a5]
  · have e : hd c = -1 := by unfold hd; rw [if_neg (by omega), if_neg (by omega), if_neg (by omega)]
    have a3 : ¬ 97 ≤ c := by omega
    have a5 : ¬ 65 ≤ c := by omega
    rw [if_neg (show ¬ c ≥ 48 from a1), e]
    simp [gossamerref4_Digit.j0, gossamerref4_Digit.j1, a3, a5]
theorem rdigit_c (c : Int) (w : World) (h0 : 0 ≤ c) (h1 : c < 256) : Calls Try.prog 20 #[.int .u8 c] w fun e w' => e = .returned (.int .i64 (hd c)) ∧ Below w.heap.size w w' :=
  (gossamerref4_Digit.calls 9 c _ w (rdigit_f c h0 h1 9 (by omega))).mono fun e w' h => ⟨h.1, h.2.below⟩

theorem or_nib64 (h l : Int) (h0 : 0 ≤ h) (h1 : h ≤ 15) (l0 : 0 ≤ l) (l1 : l ≤ 15) : (Go.bits .or .i64 (wrap64 (h * 16)) l) % 256 = h * 16 + l := by
  obtain ⟨a, rfl⟩ : ∃ n : Nat, h = n := ⟨h.toNat, by omega⟩
  obtain ⟨b, rfl⟩ : ∃ n : Nat, l = n := ⟨l.toNat, by omega⟩
  have ha : a < 16 := by omega
  have hb : b < 16 := by omega
  clear h0 h1 l0 l1
  revert b
  revert a
  decide +kernel
theorem rd_drop_at (xs : List Int) (i : Nat) (j : Nat) (h : i + j < xs.length) : rd (xs.drop i) (j : Int) = rd xs ((i + j : Nat) : Int) := by
  unfold rd
  simp only [Int.toNat_natCast]
  simp
theorem rdec_l0 (s : ByteArray) (hs : s.size ≤ 1000000) : ∀ (n i : Nat) (acc : List Int) (k : Nat), s.size ≤ i + n → acc.length ≤ i → 2 * n + 20 ≤ k → gossamerref4_Decode.l0 k s acc i = some (acc ++ pd ((bs s).drop i))
  | n, i, acc, k, hn, ha, hk => by
    obtain ⟨k, rfl⟩ : ∃ q, k = q + 1 := ⟨k - 1, by omega⟩
    simp only [gossamerref4_Decode.l0]
    by_cases c : i < s.size
    · obtain ⟨n, rfl⟩ : ∃ q, n = q + 1 := ⟨n - 1, by omega⟩
      have e0 : rd ((bs s).drop i) 0 = bt s (i : Int) := by rw [bt_drop s i c]; rfl
      have w1 : wrap64 ((i : Int) + 1) = (i : Int) + 1 := w64 (by omega) (by omega)
      have w2 : wrap64 ((i : Int) + 2) = (i : Int) + 2 := w64 (by omega) (by omega)
      have w3 : wrap64 ((i : Int) + 2 + 1) = (i : Int) + 2 + 1 := w64 (by omega) (by omega)
      have w4 : wrap64 ((s.size : Int) - i) = (s.size : Int) - i := w64 (by omega) (by omega)
      have hno : tok ((bs s).drop i) = none → gossamerref4_Decode.j1 k s acc i false = some (acc ++ pd ((bs s).drop i)) := fun ht => by
        obtain ⟨k, rfl⟩ : ∃ q, k = q + 1 := ⟨k - 1, by omega⟩
        simp only [gossamerref4_Decode.j1, Bool.false_eq_true, if_false]
        rw [if_pos (by omega), if_pos (by omega), if_pos (by omega), w1]
        have := rdec_l0 s hs n (i + 1) (acc ++ [bt s (i : Int)]) k (by omega) (by simp; omega) (by omega)
        rw [show ((i : Int) + 1) = ((i + 1 : Nat) : Int) by omega, this, pd_none (by rw [List.length_drop, bs_len]; omega) ht, List.drop_drop, List.append_assoc, e0]
        rfl
      rw [if_pos (by omega), if_pos (by omega), w1, w2, w4]
      by_cases c2 : bt s (i : Int) = 37
      · rw [if_pos c2]
        by_cases c3 : (s.size : Int) - i > 2
        · have e1 : rd ((bs s).drop i) 1 = bt s ((i : Int) + 1) := by
            have := rd_drop_at (bs s) i 1 (by rw [bs_len]; omega)
            rw [rd_bytesOf] at this
            exact this
          have e2 : rd ((bs s).drop i) 2 = bt s ((i : Int) + 2) := by
            have := rd_drop_at (bs s) i 2 (by rw [bs_len]; omega)
            rw [rd_bytesOf] at this
            exact this
          have b1 := bt_byt s ((i : Int) + 1)
          have b2 := bt_byt s ((i : Int) + 2)
          have d1 := hd_le (bt s ((i : Int) + 1))
          have d2 := hd_le (bt s ((i : Int) + 2))
          rw [if_pos c3, if_pos (by omega), if_pos (by omega), rdigit_f _ b1.1 b1.2 k (by omega), Option.bind_some]
          by_cases c4 : 0 ≤ hd (bt s ((i : Int) + 1))
          · rw [if_pos (show hd (bt s ((i : Int) + 1)) ≥ 0 from c4), if_pos (by omega), if_pos (by omega), rdigit_f _ b2.1 b2.2 k (by omega), Option.bind_some]
            by_cases c5 : 0 ≤ hd (bt s ((i : Int) + 2))
            · rw [decide_eq_true (show hd (bt s ((i : Int) + 2)) ≥ 0 from c5)]
              have ht : tok ((bs s).drop i) = some (hd (bt s ((i : Int) + 1)) * 16 + hd (bt s ((i : Int) + 2))) := by
                unfold tok
                rw [e0, e1, e2, if_pos ⟨by rw [List.length_drop, bs_len]; omega, c2, c4, c5⟩]
              obtain ⟨k, rfl⟩ : ∃ q, k = q + 1 := ⟨k - 1, by omega⟩
              simp only [gossamerref4_Decode.j1, if_true]
              rw [w1, w2, if_pos (by omega), if_pos (by omega), rdigit_f _ b1.1 b1.2 k (by omega), Option.bind_some, if_pos (by omega), if_pos (by omega), rdigit_f _ b2.1 b2.2 k (by omega), Option.bind_some, if_pos (by omega), w3, or_nib64 _ _ c4 d1.2 c5 d2.2]
              have := rdec_l0 s hs n (i + 3) (acc ++ [hd (bt s ((i : Int) + 1)) * 16 + hd (bt s ((i : Int) + 2))]) k (by omega) (by simp; omega) (by omega)
              rw [show ((i : Int) + 2 + 1) = ((i + 3 : Nat) : Int) by omega, this, pd_some ht, List.drop_drop, List.append_assoc]
              rfl
            · rw [decide_eq_false (show ¬ hd (bt s ((i : Int) + 2)) ≥ 0 from c5)]
              exact hno (by unfold tok; rw [e0, e1, e2, if_neg (fun hh => c5 hh.2.2.2)])
          · rw [if_neg (show ¬ hd (bt s ((i : Int) + 1)) ≥ 0 from c4)]
            exact hno (by unfold tok; rw [e0, e1, e2, if_neg (fun hh => c4 hh.2.2.1)])
        · rw [if_neg c3]
          exact hno (by unfold tok; rw [if_neg (fun hh => by have := hh.1; rw [List.length_drop, bs_len] at this; omega)])
      · rw [if_neg c2]
        exact hno (by unfold tok; rw [e0, if_neg (fun hh => c2 hh.2.1)])
    · rw [if_neg (by omega), List.drop_eq_nil_of_le (by rw [bs_len]; omega), pd_nil, List.append_nil]
theorem rpdecode_c (s : ByteArray) (w : World) (hs : s.size ≤ 1000000) :
    Calls Try.prog 17 #[.string s] w fun e w' => ∃ v, e = .returned v ∧ Kd.R (Kd.int .u8) 5 w' w.heap.size (fun _ => True) v (pd (bs s)) ∧ Below w.heap.size w w' :=
  gossamerref4_Decode.calls (2 * s.size + 30) s _ w (by simpa [gossamerref4_Decode.f] using rdec_l0 s hs s.size 0 [] (2 * s.size + 30) (by omega) (by simp) (by omega))

/-- A number, from 0 to below n. -/
def uLow (x n : Int) : Int := (x % 18446744073709551616) % n
theorem uLow_b (x n : Int) (h : 0 < n) : 0 ≤ uLow x n ∧ uLow x n < n := by
  unfold uLow
  exact ⟨Int.emod_nonneg _ (by omega), Int.emod_lt_of_pos _ h⟩
theorem low_f (x n : Int) (h : 0 < n) (h1 : n < 4611686018427387904) : gossamerlaw0_Low.f x n = some (uLow x n) := by
  have e1 : IntKind.u64.wrap n = n := by simp only [IntKind.wrap, IntKind.bits, IntKind.signed]; simp; omega
  have e2 : IntKind.u64.wrap x = x % 18446744073709551616 := by simp [IntKind.wrap, IntKind.bits, IntKind.signed]
  have hb := uLow_b x n h
  unfold gossamerlaw0_Low.f
  rw [e1, e2, if_neg (by omega), Int.tmod_eq_emod_of_nonneg (Int.emod_nonneg _ (by omega))]
  show some (wrap64 (uLow x n)) = _
  rw [w64 (by omega) (by omega)]
theorem low_c (x n : Int) (w : World) (h : 0 < n) (h1 : n < 4611686018427387904) :
    Calls Try.prog 10 #[.int .i64 x, .int .i64 n] w fun e w' => e = .returned (.int .i64 (uLow x n)) ∧ Below w.heap.size w w' :=
  (gossamerlaw0_Low.calls x n _ w (low_f x n h h1)).mono fun e w' h => ⟨h.1, h.2.below⟩

set_option maxHeartbeats 4000000 in
theorem core_PctTells (s : ByteArray) (n : Int) (w : World) (hs : s.size ≤ 140737488351232) (wn : (Lit.int .i64 n).wf = true) :
    Calls Try.prog 4 #[.string s, .int .i64 n] w fun e w' => e = .returned (.bool true) ∧ Below w.heap.size w w' := by
  have aw := fun w => awake_true w
  have aw := Lib.hid aw
  clear wn
  by_cases c1 : 300 < s.size
  · have d1 : decide (300 < (s.size : Int)) = true := decide_eq_true (by omega)
    go_enter Try.func4, Try.ntmps4
    go_wp2_with fail
    refine (aw.out w).mono ?_
    rintro e w1 ⟨rfl, hb⟩
    go_wp2_with fail
    go_ret
    exact ⟨rfl, hb⟩
  have d1 : decide (300 < (s.size : Int)) = false := decide_eq_false (by omega)
  have l1 := low_c n 8 w (by omega) (by omega)
  have b1 := uLow_b n 8 (by omega)
  generalize uLow n 8 = m at *
  have kE := fun w => pencode_c s m w (by omega)
  have kR := fun w => rpencode_c s m w (by omega)
  have kD := fun w => pdecode_c s w (by omega)
  have kQ := fun w => rpdecode_c s w (by omega)
  generalize strOfNums (pe m (uDec (bs s))) = t at *
  generalize pd (bs s) = p at *
  have l1 := Lib.hid l1
  have kE := Lib.hid kE
  have kR := Lib.hid kR
  have kD := Lib.hid kD
  have kQ := Lib.hid kQ
  go_enter Try.func4, Try.ntmps4
  go_wp2_with fail
  refine l1.out.mono ?_
  rintro e w1 ⟨rfl, hB⟩
  go_upto_region 4 with (fail)
  go_region_with (first
    | (go_at_call 14; refine (kE.out _).mono ?_; rintro e w2 ⟨rfl, h2⟩; have hB : Below w.heap.size w w2 := (by first | exact below_step hB h2 | exact below_step (below_drew1 hB) h2))
    | (go_at_call 15; refine (kR.out _).mono ?_; rintro e w2 ⟨rfl, h2⟩; have hB : Below w.heap.size w w2 := (by first | exact below_step hB h2 | exact below_step (below_drew1 hB) h2))
    | (go_at_call 16; refine (kD.out _).mono ?_; rintro e w2 ⟨vv, rfl, hr, h2⟩; obtain ⟨AD, cD, rfl, -, hD⟩ := Kd.R_reads hr; have hB : Below w.heap.size w w2 := (by first | exact below_step hB h2 | exact below_step (below_drew1 hB) h2); have fD := Kd.C_string (c := cD) Try.underlying27 Try.underlying5 Try.underlying9 hD; (try (have hQ := (by first | exact Kd.C_below hQ h2 | exact Kd.C_below (Kd.C_drew hQ) h2 : Kd.C (Kd.int .u8) w2 AQ p.length p); have fQ := Kd.C_string (c := cQ) Try.underlying27 Try.underlying5 Try.underlying9 hQ)))
    | (go_at_call 17; refine (kQ.out _).mono ?_; rintro e w2 ⟨vv, rfl, hr, h2⟩; obtain ⟨AQ, cQ, rfl, -, hQ⟩ := Kd.R_reads hr; have hB : Below w.heap.size w w2 := (by first | exact below_step hB h2 | exact below_step (below_drew1 hB) h2); have fQ := Kd.C_string (c := cQ) Try.underlying27 Try.underlying5 Try.underlying9 hQ; (try (have hD := (by first | exact Kd.C_below hD h2 | exact Kd.C_below (Kd.C_drew hD) h2 : Kd.C (Kd.int .u8) w2 AD p.length p); have fD := Kd.C_string (c := cD) Try.underlying27 Try.underlying5 Try.underlying9 hD)))
    | (go_at_call 13; refine (aw.out _).mono ?_; rintro e w2 ⟨rfl, h2⟩; have hB : Below w.heap.size w w2 := (by first | exact below_step hB h2 | exact below_step (below_drew1 hB) h2)))
  all_goals (go_wp2; go_ret; exact ⟨rfl, hB⟩)

end Go.Proofs.Ytdbihmkeljakeaa.LinkPctTells
