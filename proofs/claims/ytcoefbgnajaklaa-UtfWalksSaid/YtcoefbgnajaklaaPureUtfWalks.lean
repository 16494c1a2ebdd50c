/- The law UtfWalks in plain numbers and lists: it holds, for every input that the statement lets in. No condition beyond the statement's own. -/
import Derived.Test.YtcoefbgnajaklaaRUtfWalks
import Derived.Test.YtcoefbgnajaklaaLUtfTells
namespace Go.Proofs.Ytcoefbgnajaklaa.LinkUtfTells
open Go Go.RowKit Go.Proofs.Ytcoefbgnajaklaa Go.Proofs.Ytcoefbgnajaklaa.PUtfTells Go.Proofs.YtcoefbgnajaklaaW.PrintWords Go.Proofs.YtcoefbgnajaklaaW.PrintLast Go.Proofs.YtcoefbgnajaklaaW.PrintMore Go.Proofs.Ytcoefbgnajaklaa.Utf Go.Lib
set_option linter.unusedVariables false
set_option linter.unusedSimpArgs false
set_option maxRecDepth 100000
theorem walks_l0 (ys : List Int) (hb : Byt ys) (hl : ys.length ≤ 300) : ∀ (n i : Nat) (acc : List Int) (k : Nat), ys.length ≤ i + n → i ≤ ys.length → acc.length ≤ i → acc ++ uDec (ys.drop i) = uDec ys → n + ys.length + 40 ≤ k → gossamerlaw1_UtfWalks.l0 k ys acc i = some true
  | n, i, acc, k, hn, hi, ha, hac, hk => by
    obtain ⟨k, rfl⟩ : ∃ q, k = q + 1 := ⟨k - 1, by omega⟩
    have hd := decode_len _ ys (Nat.le_refl _)
    simp only [gossamerlaw1_UtfWalks.l0]
    by_cases e : i < ys.length
    · have h0 : ys.drop i ≠ [] := by intro h; have := congrArg List.length h; simp at this; omega
      have h4 := next_n _ h0
      simp only [List.length_drop] at h4
      rw [if_pos (by omega), if_pos (by omega), if_pos (by omega), Int.toNat_natCast, next_ok (ys.drop i) (hb.drop _) (by simp; omega) k (by omega)]
      simp only [Option.bind_some]
      rw [decode_step h0, List.drop_drop] at hac
      rw [w64 (by omega) (by omega), w64 (by omega) (by omega), if_neg (by omega), if_neg (by omega), if_neg (by omega), if_pos (show acc.length < 35184372088832 by omega)]
      cases n with
      | zero => omega
      | succ n =>
        have e2 : ((i : Int) + (uNext (ys.drop i)).2.1) = ((i + (uNext (ys.drop i)).2.1.toNat : Nat) : Int) := by omega
        have := walks_l0 ys hb hl n (i + (uNext (ys.drop i)).2.1.toNat) (acc ++ [(uNext (ys.drop i)).1]) k (by omega) (by omega) (by simp only [List.length_append, List.length_cons, List.length_nil]; omega) (by rw [List.append_assoc]; exact hac) (by omega)
        rw [e2, this]
        cases hok : (uNext (ys.drop i)).2.2 with
        | true => simp
        | false =>
          have := h4.2.2.2 hok
          rw [if_neg (by simp), if_pos this.1, if_neg (by omega)]
    · rw [if_neg (by omega), decode_ok ys hb (by omega) _ (by omega)]
      rw [List.drop_eq_nil_of_le (by omega), decode_nil, List.append_nil] at hac
      simp only [Option.bind_some]
      rw [hac, runes_ok _ _ (by omega) _ (by omega), awake_ok _ (by omega)]
      simp
theorem UtfWalks : gossamerlaw1_UtfWalks.Pure := by
  intro l0 _ hl hwf
  have hb : Byt l0 := Byt.of_wf hwf
  refine ⟨2 * l0.length + 40, ?_⟩
  unfold gossamerlaw1_UtfWalks.f
  rw [awake_ok _ (by omega)]
  by_cases c : (l0.length : Int) > 300
  · rw [if_pos c]; rfl
  · rw [if_neg c]
    exact walks_l0 l0 hb (by omega) l0.length 0 [] _ (by omega) (by omega) (by simp) (by simp) (by omega)

end Go.Proofs.Ytcoefbgnajaklaa.LinkUtfTells
namespace Go.Proofs.Ytcoefbgnajaklaa.Pure
open Go.Proofs.Ytcoefbgnajaklaa.PUtfTells
theorem UtfWalks : gossamerlaw1_UtfWalks.Pure := LinkUtfTells.UtfWalks
end Go.Proofs.Ytcoefbgnajaklaa.Pure
