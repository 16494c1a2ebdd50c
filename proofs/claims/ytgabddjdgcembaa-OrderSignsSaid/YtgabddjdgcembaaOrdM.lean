/- The orders of texts in plain numbers and lists: which one is less by its units, and by its code points. No condition beyond those named in each theorem. -/
import Derived.Test.YtgabddjdgcembaaOrdL
import Derived.Test.YtgabddjdgcembaaPOrdx0
import Derived.Test.YtgabddjdgcembaaPOrdx1
import Derived.Test.YtgabddjdgcembaaPOrdx2
import Derived.Test.YtgabddjdgcembaaPOrdx3
import Derived.Test.YtgabddjdgcembaaPOrdx4
import Derived.Test.YtgabddjdgcembaaPOrdx5
import Derived.Test.YtgabddjdgcembaaPOrdx6
import Derived.Test.YtgabddjdgcembaaPOrdx7
namespace Go.Proofs.Ytgabddjdgcembaa.LinkOrd
open Go Go.RowKit Go.Proofs.Ytgabddjdgcembaa Go.Proofs.Ytgabddjdgcembaa.POrd Go.Proofs.YtgabddjdgcembaaW.PrintWords Go.Proofs.YtgabddjdgcembaaW.PrintLast Go.Proofs.YtgabddjdgcembaaW.PrintMore Go.Proofs.Ytgabddjdgcembaa.Utf Go.Lib
set_option linter.unusedVariables false
set_option linter.unusedSimpArgs false
set_option maxRecDepth 100000
theorem dec_a : uDec (bs ⟨#[97]⟩) = [97] := by
  have e0 : bs ⟨#[97]⟩ = [97] := by decide
  rw [e0, decode_step (by simp)]; simp [uNext, uLead, uTail, decode_nil]
theorem dec_b : uDec (bs ⟨#[98]⟩) = [98] := by
  have e0 : bs ⟨#[98]⟩ = [98] := by decide
  rw [e0, decode_step (by simp)]; simp [uNext, uLead, uTail, decode_nil]
theorem dec_A : uDec (bs ⟨#[239, 188, 161]⟩) = [65313] := by
  have e0 : bs ⟨#[239, 188, 161]⟩ = [239, 188, 161] := by decide
  rw [e0, decode_step (by simp)]; simp [uNext, uLead, uTail, decode_nil]
theorem dec_E : uDec (bs ⟨#[240, 159, 152, 128]⟩) = [128512] := by
  have e0 : bs ⟨#[240, 159, 152, 128]⟩ = [240, 159, 152, 128] := by decide
  rw [e0, decode_step (by simp)]; simp [uNext, uLead, uTail, decode_nil]
theorem fall2 (k : Nat) (hk : 60 ≤ k) : order_Falling.f k [⟨#[97]⟩, ⟨#[98]⟩] = some [⟨#[98]⟩, ⟨#[97]⟩] := by
  obtain ⟨k, rfl⟩ : ∃ q, k = q + 8 := ⟨k - 8, by omega⟩
  have z1 : ByteArray.size ⟨#[97]⟩ = 1 := rfl
  have z2 : ByteArray.size ⟨#[98]⟩ = 1 := rfl
  have hc : ∀ k, 30 ≤ k → order_Falling_1.f k ⟨#[98]⟩ ⟨#[97]⟩ = some (-1) := fun k hk => by
    unfold order_Falling_1.f
    rw [compare_f _ _ (by rw [z1]; omega) (by rw [z2]; omega) k (by rw [z1, z2]; omega), Option.bind_some]
    unfold cmpT
    rw [dec_a, dec_b]; decide
  have r0 : rdOf ByteArray.empty [(⟨#[97]⟩ : ByteArray), ⟨#[98]⟩] 0 = ⟨#[97]⟩ := rfl
  have r1 : rdOf ByteArray.empty [(⟨#[97]⟩ : ByteArray), ⟨#[98]⟩] 1 = ⟨#[98]⟩ := rfl
  have w1 : wrap64 (0 + 1) = 1 := w64 (by omega) (by omega)
  have w2 : wrap64 (1 - 1) = 0 := w64 (by omega) (by omega)
  have w3 : wrap64 (1 + 1) = 2 := w64 (by omega) (by omega)
  unfold order_Falling.f slices_Clone_string_string.f slices_SortStableFunc_string_string.f slices_stableCmpFunc_string.f
  rw [if_pos (by simp), Option.bind_some]
  simp only [slices_stableCmpFunc_string.l0, List.length_cons, List.length_nil]
  rw [if_neg (by omega)]
  unfold slices_insertionSortCmpFunc_string.f
  simp only [slices_insertionSortCmpFunc_string.l0, slices_insertionSortCmpFunc_string.l1, List.length_cons, List.length_nil, w1]
  rw [if_pos (by omega), if_pos (by omega), if_pos (by omega), if_pos (by omega), w2, if_pos (by omega), if_pos (by omega), r1, r0, hc _ (by omega), Option.bind_some, if_pos (by omega), if_neg (by omega), w3, if_neg (by omega), Option.bind_some]
  simp only [slices_stableCmpFunc_string.l1]
  rw [if_neg (by omega)]
  rfl
theorem lit_toList (xs : List Int) : (strOfNums xs).toList = Lib.bytesOf xs := strOfNums_toList xs
theorem awake_f (k : Nat) (hk : 80 ≤ k) : gossamerlaw2_awake.f k = some true := by
  have z1 : ByteArray.size ⟨#[240, 159, 152, 128]⟩ = 4 := rfl
  have z2 : ByteArray.size ⟨#[239, 188, 161]⟩ = 3 := rfl
  have e1 : uns [128512] = [55357, 56832] := by decide
  have e2 : rd [55357, 56832] 0 = 55357 := rfl
  have e3 : cmpT ⟨#[239, 188, 161]⟩ ⟨#[240, 159, 152, 128]⟩ = 1 := by unfold cmpT; rw [dec_A, dec_E]; decide
  have e4 : ptsT ⟨#[239, 188, 161]⟩ ⟨#[240, 159, 152, 128]⟩ = -1 := by unfold ptsT; rw [dec_A, dec_E]; decide
  have e5 : rdOf ByteArray.empty [(⟨#[98]⟩ : ByteArray), ⟨#[97]⟩] 0 = strOfNums [98] := rfl
  unfold gossamerlaw2_awake.f
  rw [units_f _ (by rw [z1]; omega) k (by rw [z1]; omega), Option.bind_some, fall2 k (by omega), Option.bind_some, dec_E, e1, if_pos (by simp), if_pos (by simp), if_pos e2, compare_f _ _ (by rw [z2]; omega) (by rw [z1]; omega) k (by rw [z1, z2]; omega), Option.bind_some, e3, if_pos rfl,
    points_f _ _ (by rw [z2]; omega) (by rw [z1]; omega) k (by rw [z1, z2]; omega), Option.bind_some, e4, if_pos rfl, if_pos (by simp), if_pos (by simp), e5, strOfNums_toList]
  decide

end Go.Proofs.Ytgabddjdgcembaa.LinkOrd
