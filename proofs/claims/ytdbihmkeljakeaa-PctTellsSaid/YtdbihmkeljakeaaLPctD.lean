/- Lemmas of the session on the law PctTells. -/
import Derived.Test.YtdbihmkeljakeaaLPctTells
import Derived.Test.YtdbihmkeljakeaaLPctB
import Derived.Test.YtdbihmkeljakeaaLPctC
import Derived.Test.YtdbihmkeljakeaaSh
import Derived.Lib.Hide
namespace Go.Proofs.Ytdbihmkeljakeaa.LinkPctTells
open Go Go.RowKit Go.Proofs.Ytdbihmkeljakeaa Go.Proofs.Ytdbihmkeljakeaa.PPctTells Go.Proofs.YtdbihmkeljakeaaW.PrintWords Go.Proofs.YtdbihmkeljakeaaW.PrintLast Go.Proofs.YtdbihmkeljakeaaW.PrintMore Go.Proofs.Ytdbihmkeljakeaa.Utf Go.Lib
set_option linter.unusedVariables false
set_option linter.unusedSimpArgs false
set_option maxRecDepth 100000
theorem aw_enc : strOfNums (pe 4 (uDec (bs ⟨#[97, 32, 98, 195, 169]⟩))) = ⟨#[97, 37, 50, 48, 98, 37, 67, 51, 37, 65, 57]⟩ := by
  have e0 : bs ⟨#[97, 32, 98, 195, 169]⟩ = [97, 32, 98, 195, 169] := by decide
  have e : uDec [97, 32, 98, 195, 169] = [97, 32, 98, 233] := by
    rw [decode_step (by simp), decode_step (by simp [uNext, uLead, uTail]), decode_step (by simp [uNext, uLead, uTail]), decode_step (by simp [uNext, uLead, uTail])]; simp [uNext, uLead, uTail, decode_nil]
  rw [e0, e]
  decide
theorem aw_dec : pd (bs ⟨#[47, 97, 37, 50, 70, 37, 122, 122]⟩) = [47, 97, 47, 37, 122, 122] := by decide
set_option maxHeartbeats 2000000 in
theorem awake_true (w : World) : Calls Try.prog 13 #[] w fun e w' => e = .returned (.bool true) ∧ Below w.heap.size w w' := by
  have kE := pencode_c ⟨#[97, 32, 98, 195, 169]⟩ 4 w (by decide)
  rw [aw_enc] at kE
  have kD := fun w => pdecode_c ⟨#[47, 97, 37, 50, 70, 37, 122, 122]⟩ w (by decide)
  simp only [aw_dec] at kD
  have k1 := fun w => in_c 4 63 w (by omega) (by omega)
  have k2 := fun w => in_c 2 63 w (by omega) (by omega)
  have k3 := fun w => in_c 0 97 w (by omega) (by omega)
  simp only [show pin 4 63 = true by decide] at k1
  simp only [show pin 2 63 = false by decide] at k2
  simp only [show pin 0 97 = false by decide] at k3
  have kE := Lib.hid kE
  have kD := Lib.hid kD
  have k1 := Lib.hid k1
  have k2 := Lib.hid k2
  have k3 := Lib.hid k3
  go_enter Try.func13, Try.ntmps13
  go_wp2_with fail
  refine kE.out.mono ?_
  rintro e w1 ⟨rfl, hb1⟩
  go_wp2_with fail
  refine (kD.out w1).mono ?_
  rintro e w2 ⟨v2, rfl, hr, h2⟩
  obtain ⟨A2, c2, rfl, -, hc2⟩ := Kd.R_reads hr
  clear hr
  have hb2 := below_step hb1 h2
  clear hb1 h2
  have hs := Kd.C_string (c := c2) Try.underlying27 Try.underlying5 Try.underlying9 hc2
  rw [show ([47, 97, 47, 37, 122, 122] : List Int).length = 6 from rfl, show strOfNums [47, 97, 47, 37, 122, 122] = ⟨#[47, 97, 47, 37, 122, 122]⟩ by decide] at hs
  go_wp2_with fail
  refine (k1.out w2).mono ?_
  rintro e w3 ⟨rfl, h3⟩
  have hb3 := below_step hb2 h3
  clear hb2 h3 hs hc2
  go_wp2_with fail
  refine (k2.out w3).mono ?_
  rintro e w4 ⟨rfl, h4⟩
  have hb4 := below_step hb3 h4
  clear hb3 h4
  go_wp2_with fail
  refine (k3.out w4).mono ?_
  rintro e w5 ⟨rfl, h5⟩
  have hb5 := below_step hb4 h5
  clear hb4 h5
  go_wp2_with fail
  go_ret
  exact ⟨rfl, hb5⟩

end Go.Proofs.Ytdbihmkeljakeaa.LinkPctTells
