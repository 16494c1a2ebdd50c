/- What every program answers that is one: the walk of awake of chapter 3. No condition. -/
import Derived.Test.YtcoefbgnajaklaaSW
import Derived.Test.YtcoefbgnajaklaaFl
import Derived.Lib.Hide
import Derived.Lib.ConvBytes
import Derived.Laws.ComplexArith
import Derived.Laws.FloatArith
import Derived.Laws.Cover2
import Derived.Laws.Cover3
namespace Go.Proofs.Ytcoefbgnajaklaa.LinkUtfTells
open Go Go.RowKit Go.Proofs.Ytcoefbgnajaklaa Go.Proofs.Ytcoefbgnajaklaa.PUtfTells Go.Proofs.YtcoefbgnajaklaaW.PrintWords Go.Proofs.YtcoefbgnajaklaaW.PrintLast Go.Proofs.YtcoefbgnajaklaaW.PrintMore Go.Proofs.Ytcoefbgnajaklaa.Utf Go.Lib Go.Proofs.Ytcoefbgnajaklaa.Fl
set_option linter.unusedVariables false
set_option linter.unusedSimpArgs false
set_option maxRecDepth 100000
theorem ord_eq (a : Nat) (h : a < 2 ^ 53) : FloatKind.f64.format.order (fl a) (fl a) = some .eq := by
  have := order_fl a a h h
  rw [Nat.compare_eq_eq.2 rfl] at this
  exact this
theorem fl_three : fl 3 = 4613937818241073152 := by decide +kernel
theorem fl_seven : fl 7 = 4619567317775286272 := by decide +kernel
theorem fl_nine : fl 9 = 4621256167635550208 := by decide +kernel
theorem dec_ascii (xs : List Int) (h : ∀ x ∈ xs, 0 ≤ x ∧ x < 128) : uDec xs = xs := by
  have e : uEnc xs = xs := by
    induction xs with
    | nil => rfl
    | cons x xs ih =>
      have hx := h x (List.mem_cons_self ..)
      rw [encode_cons, ih fun y hy => h y (List.mem_cons_of_mem _ hy), fix_eq ⟨hx.1, by omega, by omega⟩]
      unfold uPt; rw [if_pos hx.2]; rfl
  have h2 := decode_encode' xs
  rw [e] at h2
  rw [h2]
  conv => rhs; rw [← List.map_id xs]
  exact List.map_congr_left fun r hr => by
    have hx := h r hr
    simpa using fix_eq (show Scal r from ⟨hx.1, by omega, by omega⟩)
theorem C_news (W : World) (e : TypeId) (m : Nat × Nat) (ss : List ByteArray) (hm : ss.length ≤ 1000000) : Kd.string.C (W.alloc (.cells (ss.map Value.string).toArray e m)) (some ⟨W.heap.size, 0, none⟩) ss.length ss := by
  refine Kd.C_of_reads (d := ByteArray.empty) (h1 := fun _ => rfl) ⟨rfl, by omega, fun _ => ⟨_, rfl, fun j hj => ?_⟩⟩
  have hb := blk_new W (.cells (ss.map Value.string).toArray e m)
  have := cell_of_row _ _ j _ _ _ hb
  have e2 : (⟨W.heap.size, 0, none⟩ : Addr).add j = ⟨W.heap.size, j, none⟩ := by cases j <;> simp [Addr.add]
  rw [e2, this]
  simp [hj]
set_option maxHeartbeats 1000000 in
theorem awake3_true (w : World) : Calls Try.prog 14 #[] w fun e w' => e = .returned (.bool true) ∧ Below w.heap.size w w' := by
  have o1 := ord_eq 1 (by omega)
  have o2 := ord_eq 2 (by omega)
  have o3 := ord_eq 3 (by omega)
  rw [fl_one] at o1
  rw [fl_two] at o2
  rw [fl_three] at o3
  go_enter Try.func14, Try.ntmps14
  go_wp2_with fail
  have k1 := wideN_c (some ⟨w.heap.size, 0, none⟩) 2 [⟨#[97]⟩, ⟨#[240, 159, 152, 128]⟩] _ (C_news w 9 (0, 0) [⟨#[97]⟩, ⟨#[240, 159, 152, 128]⟩] (by simp)) (by decide) (by simp)
  have e1 : wds [⟨#[97]⟩, ⟨#[240, 159, 152, 128]⟩] (0, 0) = (2, 3) := by
    have a1 : uDec (bs ⟨#[97]⟩) = [97] := dec_ascii [97] (by simp)
    have a2 : uDec (bs ⟨#[240, 159, 152, 128]⟩) = [128512] := by
      have := decode_enc (r := 128512) ⟨by omega, by omega, by omega⟩ []
      rw [decode_nil, List.append_nil] at this
      exact this
    simp only [wds, List.foldl, a1, a2]
    decide
  rw [e1] at k1
  simp only [cx, fl_two, fl_three] at k1
  refine k1.mono ?_
  clear k1 e1
  rintro e w1 ⟨rfl, hb1⟩
  have hB1 := below_step (below_alloc (Below.refl _ _) _) hb1
  clear hb1
  go_wp2_with fail
  have k1 := at_c ⟨#[97, 98, 10, 99]⟩ 4 w1 (by decide)
  have e1 : sp (uDec ((bs ⟨#[97, 98, 10, 99]⟩).take (4 : Int).toNat)) (1, 1) = (2, 2) := by
    have a1 : uDec ((bs ⟨#[97, 98, 10, 99]⟩).take (4 : Int).toNat) = [97, 98, 10, 99] := dec_ascii [97, 98, 10, 99] (by simp)
    rw [a1]; decide
  rw [e1] at k1
  simp only [cx, fl_two] at k1
  refine k1.mono ?_
  clear k1 e1
  rintro e w2 ⟨rfl, hb2⟩
  have hB2 := below_step hB1 hb2
  clear hb2 hB1
  go_wp2_with fail
  have k1 := line_c 7 9 (by omega) w2
  simp only [cx, fl_seven, fl_nine] at k1
  refine k1.mono ?_
  clear k1
  rintro e w3 ⟨rfl, rfl⟩
  go_wp2_with fail
  have k1 := column_c 7 9 (by omega) w2
  simp only [cx, fl_seven, fl_nine] at k1
  refine k1.mono ?_
  clear k1
  rintro e w3 ⟨rfl, rfl⟩
  go_wp2_with fail
  have k1 := behind_c 1 1 ⟨#[120]⟩ w2 (by omega) (by omega) (by omega) (by decide)
  have e1 : sp (uDec (bs ⟨#[120]⟩)) (1, 1) = (1, 2) := by
    have a1 : uDec (bs ⟨#[120]⟩) = [120] := dec_ascii [120] (by simp)
    rw [a1]; decide
  rw [e1] at k1
  simp only [cx, fl_one, fl_two] at k1
  refine k1.mono ?_
  clear k1 e1
  rintro e w4 ⟨rfl, hb4⟩
  have hB4 := below_step hB2 hb4
  go_wp2
  go_ret
  exact ⟨by simp, hB4⟩

end Go.Proofs.Ytcoefbgnajaklaa.LinkUtfTells
