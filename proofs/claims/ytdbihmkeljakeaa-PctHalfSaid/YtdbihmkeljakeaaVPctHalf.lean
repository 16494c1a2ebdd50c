/- The law PctHalf: its walk. -/
import Derived.Test.YtdbihmkeljakeaaLPctTells
import Derived.Test.YtdbihmkeljakeaaLPctB
import Derived.Test.YtdbihmkeljakeaaLPctC
import Derived.Test.YtdbihmkeljakeaaLPctD
import Derived.Test.YtdbihmkeljakeaaSh
import Derived.Lib.Hide
import Derived.Test.YtdbihmkeljakeaaPPctTellsx6
namespace Go.Proofs.Ytdbihmkeljakeaa.LinkPctTells
open Go Go.RowKit Go.Proofs.Ytdbihmkeljakeaa Go.Proofs.Ytdbihmkeljakeaa.PPctTells Go.Proofs.YtdbihmkeljakeaaW.PrintWords Go.Proofs.YtdbihmkeljakeaaW.PrintLast Go.Proofs.YtdbihmkeljakeaaW.PrintMore Go.Proofs.Ytdbihmkeljakeaa.Utf Go.Lib
set_option linter.unusedVariables false
set_option linter.unusedSimpArgs false
set_option maxRecDepth 100000
theorem rdigit_f (c : Int) (h0 : 0 ≤ c) (h1 : c < 256) (k : Nat) (hk : 3 ≤ k) : gossamerref4_Digit.f k c = some (hd c) := by
  obtain ⟨k, rfl⟩ : ∃ q, k = q + 2 := ⟨k - 2, by omega⟩
  unfold gossamerref4_Digit.f
  by_cases a1 : 48 ≤ c
  · rw [if_pos (show c ≥ 48 from a1)]
    by_cases a2 : c ≤ 57
    · have e : hd c = c - 48 := by unfold hd; rw [if_pos ⟨a1, a2⟩]
      have e3 : (c - 48) % 256 = c - 48 := by omega
      rw [e, decide_eq_true a2]
      simp [gossamerref4_Digit.j0, e3]
    · by_cases a3 : 97 ≤ c
      · by_cases a4 : c ≤ 102
        · have e : hd c = c - 87 := by unfold hd; rw [if_neg (by omega), if_pos ⟨a3, a4⟩]
          have e3 : (c - 97) % 256 + 10 = c - 87 := by omega
          rw [e, decide_eq_false a2]
          simp [gossamerref4_Digit.j0, gossamerref4_Digit.j1, a3, a4, e3]
        · have e : hd c = -1 := by unfold hd; rw [if_neg (by omega), if_neg (by omega), if_neg (by omega)]
          have a6 : ¬ c ≤ 70 := by omega
          rw [e, decide_eq_false a2]
          simp [gossamerref4_Digit.j0, gossamerref4_Digit.j1, a3, a4, a6]
      · by_cases a5 : 65 ≤ c
        · by_cases a6 : c ≤ 70
          · have e : hd c = c - 55 := by unfold hd; rw [if_neg (by omega), if_neg (by omega), if_pos ⟨a5, a6⟩]
            have e3 : (c - 65) % 256 + 10 = c - 55 := by omega
            rw [e, decide_eq_false a2]
            simp [gossamerref4_Digit.j0, gossamerref4_Digit.j1, a3, a5, a6, e3]
          · have e : hd c = -1 := by unfold hd; rw [if_neg (by omega), if_neg (by omega), if_neg (by omega)]
            rw [e, decide_eq_false a2]
            simp [gossamerref4_Digit.j0, gossamerref4_Digit.j1, a3, a5, a6]
        · have e : hd c = -1 := by unfold hd; rw [if_neg (by omega), if_neg (by omega), if_neg (by omega)]
          rw [e, decide_eq_false a2]
          simp [gossamerref4_Digit.j0, gossamerref4_Digit.j1, a3, a5]
  · have e : hd c = -1 := by unfold hd; rw [if_neg (by omega), if_neg (by omega), if_neg (by omega)]
    have a3 : ¬ 97 ≤ c := by omega
    have a5 : ¬ 65 ≤ c := by omega
    rw [if_neg (show ¬ c ≥ 48 from a1), e]
    simp [gossamerref4_Digit.j0, gossamerref4_Digit.j1, a3, a5]
theorem rdigit_c (c : Int) (w : World) (h0 : 0 ≤ c) (h1 : c < 256) : Calls Try.prog 20 #[.int .u8 c] w fun e w' => e = .returned (.int .i64 (hd c)) ∧ Below w.heap.size w w' :=
  (gossamerref4_Digit.calls 9 c _ w (rdigit_f c h0 h1 9 (by omega))).mono fun e w' h => ⟨h.1, h.2.below⟩
theorem bs_str {xs : List Int} (h : Byt xs) : bs (strOfNums xs) = xs := by
  unfold bs Go.Proofs.YtdbihmkeljakeaaW.PrintWords.bytesOf strOfNums
  simp only [List.map_map]
  conv => rhs; rw [← List.map_id xs]
  refine List.map_congr_left fun x hx => ?_
  have := h x hx
  simp only [Function.comp, UInt8.toNat_ofNat', id]
  omega
theorem tok_ne {xs : List Int} (h : rd xs 0 ≠ 37) : tok xs = none := by unfold tok; rw [if_neg (fun hh => h hh.2.1)]
theorem pd_ne {c : Int} (h : c ≠ 37) (t : List Int) : pd (c :: t) = c :: pd t := pd_none (by simp) (tok_ne (by simpa [rd] using h))
theorem pd_half {a b c : Int} (h : hd a < 0 ∨ hd b < 0) (ha : a ≠ 37) (hb : b ≠ 37) (hc : c ≠ 37) : pd [37, a, b, c] = [37, a, b, c] := by
  have t0 : tok [37, a, b, c] = none := by
    unfold tok
    rw [if_neg]
    intro hh
    have h3 : 0 ≤ hd a := hh.2.2.1
    have h4 : 0 ≤ hd b := hh.2.2.2
    omega
  rw [pd_none (by simp) t0]
  show 37 :: pd [a, b, c] = _
  rw [pd_ne ha, pd_ne hb, pd_ne hc, pd_nil]
set_option maxHeartbeats 4000000 in
theorem core_PctHalf (a b c : Int) (w : World) (wa : (Lit.int .u8 a).wf = true) (wb : (Lit.int .u8 b).wf = true) (wc : (Lit.int .u8 c).wf = true) :
    Calls Try.prog 8 #[.int .u8 a, .int .u8 b, .int .u8 c] w fun e w' => e = .returned (.bool true) ∧ Below w.heap.size w w' := by
  have hall : Byt [a, b, c] := Byt.of_wf (fun x hx => by
    simp only [List.mem_cons, List.not_mem_nil, or_false] at hx
    obtain rfl | rfl | rfl := hx
    · exact wa
    · exact wb
    · exact wc)
  have ba := hall a (by simp)
  have bb := hall b (by simp)
  have bc := hall c (by simp)
  clear wa wb wc
  have k1 := rdigit_c a w ba.1 ba.2
  have k2 := fun w => rdigit_c b w bb.1 bb.2
  have hda := hd_le a
  have hdb := hd_le b
  have hbyt : Byt [37, a, b, c] := Byt.cons (by omega) hall
  have aw := fun w => awake_true w
  have main : (hd a < 0 ∨ hd b < 0) → a ≠ 37 → b ≠ 37 → c ≠ 37 → ∀ w0 w, Below w0.heap.size w0 w → Calls Try.prog 16 #[.string (strOfNums [37, a, b, c])] w fun e w' => ∃ v, e = .returned v ∧ Kd.R (Kd.int .u8) 5 w' w.heap.size (fun _ => True) v [37, a, b, c] ∧ Below w0.heap.size w0 w' := by
    intro h1 h2 h3 h4 w0 w hb
    have := pdecode_c (strOfNums [37, a, b, c]) w (by simp [strOfNums, ByteArray.size])
    rw [bs_str hbyt, pd_half h1 h2 h3 h4] at this
    exact this.mono fun e w' ⟨v, h5, h6, h7⟩ => ⟨v, h5, h6, below_step hb h7⟩
  have k1 := Lib.hid k1
  have k2 := Lib.hid k2
  have aw := Lib.hid aw
  have main := Lib.hid main
  by_cases c1 : 0 ≤ hd a
  · have d1 : decide (0 ≤ hd a) = true := decide_eq_true c1
    by_cases c2 : 0 ≤ hd b
    · have d2 : decide (0 ≤ hd b) = true := decide_eq_true c2
      clear main
      go_enter Try.func8, Try.ntmps8
      go_wp2_with fail
      refine k1.out.mono ?_
      rintro e w1 ⟨rfl, hb1⟩
      go_wp2_with fail
      refine (k2.out w1).mono ?_
      rintro e w2 ⟨rfl, h2⟩
      have hb2 := below_step hb1 h2
      clear hb1 h2
      go_wp2_with fail
      refine (aw.out w2).mono ?_
      rintro e w3 ⟨rfl, h3⟩
      have hb3 := below_step hb2 h3
      clear hb2 h3
      go_wp2_with fail
      go_ret
      exact ⟨rfl, hb3⟩
    · have d2 : decide (0 ≤ hd b) = false := decide_eq_false c2
      by_cases c3 : a = 37
      · clear main
        subst c3
        go_enter Try.func8, Try.ntmps8
        go_wp2_with fail
        refine k1.out.mono ?_
        rintro e w1 ⟨rfl, hb1⟩
        go_wp2_with fail
        refine (k2.out w1).mono ?_
        rintro e w2 ⟨rfl, h2⟩
        have hb1 := below_step hb1 h2
        clear h2
        go_wp2_with fail
        refine (aw.out w2).mono ?_
        rintro e w3 ⟨rfl, h3⟩
        have hb3 := below_step hb1 h3
        clear hb1 h3
        go_wp2_with fail
        go_ret
        exact ⟨rfl, hb3⟩
      by_cases c4 : b = 37
      · clear main
        have n1 : (a == 37) = false := beq_eq_false_iff_ne.2 c3
        subst c4
        go_enter Try.func8, Try.ntmps8
        go_wp2_with fail
        refine k1.out.mono ?_
        rintro e w1 ⟨rfl, hb1⟩
        go_wp2_with fail
        refine (k2.out w1).mono ?_
        rintro e w2 ⟨rfl, h2⟩
        have hb1 := below_step hb1 h2
        clear h2
        go_wp2_with fail
        refine (aw.out w2).mono ?_
        rintro e w3 ⟨rfl, h3⟩
        have hb3 := below_step hb1 h3
        clear hb1 h3
        go_wp2_with fail
        go_ret
        exact ⟨rfl, hb3⟩
      by_cases c5 : c = 37
      · clear main
        have n1 : (a == 37) = false := beq_eq_false_iff_ne.2 c3
        have n2 : (b == 37) = false := beq_eq_false_iff_ne.2 c4
        subst c5
        go_enter Try.func8, Try.ntmps8
        go_wp2_with fail
        refine k1.out.mono ?_
        rintro e w1 ⟨rfl, hb1⟩
        go_wp2_with fail
        refine (k2.out w1).mono ?_
        rintro e w2 ⟨rfl, h2⟩
        have hb1 := below_step hb1 h2
        clear h2
        go_wp2_with fail
        refine (aw.out w2).mono ?_
        rintro e w3 ⟨rfl, h3⟩
        have hb3 := below_step hb1 h3
        clear hb1 h3
        go_wp2_with fail
        go_ret
        exact ⟨rfl, hb3⟩
      have n1 : (a == 37) = false := beq_eq_false_iff_ne.2 c3
      have n2 : (b == 37) = false := beq_eq_false_iff_ne.2 c4
      have n3 : (c == 37) = false := beq_eq_false_iff_ne.2 c5
      have kM := Lib.hid (main.out (by omega) c3 c4 c5)
      clear main c3 c4 c5
      have kx := fun w => pdecode_c ⟨#[120, 37]⟩ w (by decide)
      simp only [show pd (bs ⟨#[120, 37]⟩) = [120, 37] by decide] at kx
      have ky := fun w => pdecode_c ⟨#[37, 52]⟩ w (by decide)
      simp only [show pd (bs ⟨#[37, 52]⟩) = [37, 52] by decide] at ky
      have kx := Lib.hid kx
      have ky := Lib.hid ky
      have hsL := fun W : World => Kd.C_string (c := 4) Try.underlying27 Try.underlying5 Try.underlying9 (C_new .u8 W 5 (0, 0) [37, a, b, c] (by simp))
      simp only [List.map_cons, List.map_nil, List.length_cons, List.length_nil] at hsL
      generalize ht : strOfNums [37, a, b, c] = t at *
      have ht := Lib.hid ht
      go_enter Try.func8, Try.ntmps8
      go_wp2_with fail
      refine k1.out.mono ?_
      rintro e w1 ⟨rfl, hb1⟩
      go_wp2_with fail
      refine (k2.out w1).mono ?_
      rintro e w2 ⟨rfl, h2⟩
      have hb1 := below_step hb1 h2
      clear h2
      go_wp2_with fail
      refine (kM.out w _ (below_alloc hb1 _)).mono ?_
      rintro e w3 ⟨v3, rfl, hr, hb3⟩
      obtain ⟨A3, q3, rfl, -, hc3⟩ := Kd.R_reads hr
      clear hr hb1
      have hs := Kd.C_string (c := q3) Try.underlying27 Try.underlying5 Try.underlying9 hc3
      rw [ht.out, show ([37, a, b, c] : List Int).length = 4 from rfl] at hs
      go_wp2_with fail
      refine (kx.out w3).mono ?_
      rintro e w4 ⟨v4, rfl, hr, h4⟩
      obtain ⟨A4, q4, rfl, -, hc4⟩ := Kd.R_reads hr
      have hb4 := below_step hb3 h4
      clear hr hb3 h4 hs hc3
      have hs := Kd.C_string (c := q4) Try.underlying27 Try.underlying5 Try.underlying9 hc4
      rw [show ([120, 37] : List Int).length = 2 from rfl, show strOfNums [120, 37] = ⟨#[120, 37]⟩ by decide] at hs
      go_wp2_with fail
      refine (ky.out w4).mono ?_
      rintro e w5 ⟨v5, rfl, hr, h5⟩
      obtain ⟨A5, q5, rfl, -, hc5⟩ := Kd.R_reads hr
      have hb5 := below_step hb4 h5
      clear hr hb4 h5 hs hc4
      have hs := Kd.C_string (c := q5) Try.underlying27 Try.underlying5 Try.underlying9 hc5
      rw [show ([37, 52] : List Int).length = 2 from rfl, show strOfNums [37, 52] = ⟨#[37, 52]⟩ by decide] at hs
      go_wp2_with fail
      refine (aw.out w5).mono ?_
      rintro e w6 ⟨rfl, h6⟩
      have hb6 := below_step hb5 h6
      clear hb5 h6 hs
      go_wp2_with fail
      go_ret
      exact ⟨rfl, hb6⟩
  · have d1 : decide (0 ≤ hd a) = false := decide_eq_false c1
    by_cases c3 : a = 37
    · clear main
      subst c3
      go_enter Try.func8, Try.ntmps8
      go_wp2_with fail
      refine k1.out.mono ?_
      rintro e w1 ⟨rfl, hb1⟩
      go_wp2_with fail
      refine (aw.out w1).mono ?_
      rintro e w3 ⟨rfl, h3⟩
      have hb3 := below_step hb1 h3
      clear hb1 h3
      go_wp2_with fail
      go_ret
      exact ⟨rfl, hb3⟩
    by_cases c4 : b = 37
    · clear main
      have n1 : (a == 37) = false := beq_eq_false_iff_ne.2 c3
      subst c4
      go_enter Try.func8, Try.ntmps8
      go_wp2_with fail
      refine k1.out.mono ?_
      rintro e w1 ⟨rfl, hb1⟩
      go_wp2_with fail
      refine (aw.out w1).mono ?_
      rintro e w3 ⟨rfl, h3⟩
      have hb3 := below_step hb1 h3
      clear hb1 h3
      go_wp2_with fail
      go_ret
      exact ⟨rfl, hb3⟩
    by_cases c5 : c = 37
    · clear main
      have n1 : (a == 37) = false := beq_eq_false_iff_ne.2 c3
      have n2 : (b == 37) = false := beq_eq_false_iff_ne.2 c4
      subst c5
      go_enter Try.func8, Try.ntmps8
      go_wp2_with fail
      refine k1.out.mono ?_
      rintro e w1 ⟨rfl, hb1⟩
      go_wp2_with fail
      refine (aw.out w1).mono ?_
      rintro e w3 ⟨rfl, h3⟩
      have hb3 := below_step hb1 h3
      clear hb1 h3
      go_wp2_with fail
      go_ret
      exact ⟨rfl, hb3⟩
    have n1 : (a == 37) = false := beq_eq_false_iff_ne.2 c3
    have n2 : (b == 37) = false := beq_eq_false_iff_ne.2 c4
    have n3 : (c == 37) = false := beq_eq_false_iff_ne.2 c5
    have kM := Lib.hid (main.out (by omega) c3 c4 c5)
    clear main c3 c4 c5
    have kx := fun w => pdecode_c ⟨#[120, 37]⟩ w (by decide)
    simp only [show pd (bs ⟨#[120, 37]⟩) = [120, 37] by decide] at kx
    have ky := fun w => pdecode_c ⟨#[37, 52]⟩ w (by decide)
    simp only [show pd (bs ⟨#[37, 52]⟩) = [37, 52] by decide] at ky
    have kx := Lib.hid kx
    have ky := Lib.hid ky
    have hsL := fun W : World => Kd.C_string (c := 4) Try.underlying27 Try.underlying5 Try.underlying9 (C_new .u8 W 5 (0, 0) [37, a, b, c] (by simp))
    simp only [List.map_cons, List.map_nil, List.length_cons, List.length_nil] at hsL
    generalize ht : strOfNums [37, a, b, c] = t at *
    have ht := Lib.hid ht
    go_enter Try.func8, Try.ntmps8
    go_wp2_with fail
    refine k1.out.mono ?_
    rintro e w1 ⟨rfl, hb1⟩
    go_wp2_with fail
    refine (kM.out w _ (below_alloc hb1 _)).mono ?_
    rintro e w3 ⟨v3, rfl, hr, hb3⟩
    obtain ⟨A3, q3, rfl, -, hc3⟩ := Kd.R_reads hr
    clear hr hb1
    have hs := Kd.C_string (c := q3) Try.underlying27 Try.underlying5 Try.underlying9 hc3
    rw [ht.out, show ([37, a, b, c] : List Int).length = 4 from rfl] at hs
    go_wp2_with fail
    refine (kx.out w3).mono ?_
    rintro e w4 ⟨v4, rfl, hr, h4⟩
    obtain ⟨A4, q4, rfl, -, hc4⟩ := Kd.R_reads hr
    have hb4 := below_step hb3 h4
    clear hr hb3 h4 hs hc3
    have hs := Kd.C_string (c := q4) Try.underlying27 Try.underlying5 Try.underlying9 hc4
    rw [show ([120, 37] : List Int).length = 2 from rfl, show strOfNums [120, 37] = ⟨#[120, 37]⟩ by decide] at hs
    go_wp2_with fail
    refine (ky.out w4).mono ?_
    rintro e w5 ⟨v5, rfl, hr, h5⟩
    obtain ⟨A5, q5, rfl, -, hc5⟩ := Kd.R_reads hr
    have hb5 := below_step hb4 h5
    clear hr hb4 h5 hs hc4
    have hs := Kd.C_string (c := q5) Try.underlying27 Try.underlying5 Try.underlying9 hc5
    rw [show ([37, 52] : List Int).length = 2 from rfl, show strOfNums [37, 52] = ⟨#[37, 52]⟩ by decide] at hs
    go_wp2_with fail
    refine (aw.out w5).mono ?_
    rintro e w6 ⟨rfl, h6⟩
    have hb6 := below_step hb5 h6
    clear hb5 h6 hs
    go_wp2_with fail
    go_ret
    exact ⟨rfl, hb6⟩

end Go.Proofs.Ytdbihmkeljakeaa.LinkPctTells
