/- The law UtfTells in plain numbers and lists: it holds, for every input that the statement lets in. No condition beyond the statement's own. -/
import Derived.Test.YtcoefbgnajaklaaRUtfTells
import Derived.Test.YtcoefbgnajaklaaLUtfTells
namespace Go.Proofs.Ytcoefbgnajaklaa.LinkUtfTells
open Go Go.RowKit Go.Proofs.Ytcoefbgnajaklaa Go.Proofs.Ytcoefbgnajaklaa.PUtfTells Go.Proofs.YtcoefbgnajaklaaW.PrintWords Go.Proofs.YtcoefbgnajaklaaW.PrintLast Go.Proofs.YtcoefbgnajaklaaW.PrintMore Go.Proofs.Ytcoefbgnajaklaa.Utf Go.Lib
set_option linter.unusedVariables false
set_option linter.unusedSimpArgs false
set_option maxRecDepth 100000
theorem UtfTells : gossamerlaw1_UtfTells.Pure := by
  intro l0 _ hl hwf
  have hb : Byt l0 := Byt.of_wf hwf
  refine ⟨l0.length + 40, ?_⟩
  unfold gossamerlaw1_UtfTells.f
  rw [awake_ok _ (by omega)]
  by_cases c : (l0.length : Int) > 400
  · rw [if_pos c]; rfl
  · rw [if_neg c, next_ok l0 hb (by omega) _ (by omega), rnext_ok l0 hb (by omega) _ (by omega), valid_ok l0 hb (by omega) _ (by omega), rvalid_ok l0 hb (by omega) _ (by omega), decode_ok l0 hb (by omega) _ (by omega), rdecode_ok l0 hb (by omega) _ (by omega)]
    have hd := decode_len _ l0 (Nat.le_refl _)
    simp only [Option.bind_some, if_true, beq_self_eq_true]
    rw [runes_ok _ _ (by omega) _ (by omega)]
    simp

end Go.Proofs.Ytcoefbgnajaklaa.LinkUtfTells
namespace Go.Proofs.Ytcoefbgnajaklaa.Pure
open Go.Proofs.Ytcoefbgnajaklaa.PUtfTells
theorem UtfTells : gossamerlaw1_UtfTells.Pure := LinkUtfTells.UtfTells
end Go.Proofs.Ytcoefbgnajaklaa.Pure
