/- The law PctIn: its walk. -/
import Derived.Test.YtdbihmkeljakeaaLPctTells
import Derived.Test.YtdbihmkeljakeaaLPctB
import Derived.Test.YtdbihmkeljakeaaLPctC
import Derived.Test.YtdbihmkeljakeaaLPctD
import Derived.Test.YtdbihmkeljakeaaSh
import Derived.Lib.Hide
import Derived.Test.YtdbihmkeljakeaaPPctTellsx1
namespace Go.Proofs.Ytdbihmkeljakeaa.LinkPctTells
open Go Go.RowKit Go.Proofs.Ytdbihmkeljakeaa Go.Proofs.Ytdbihmkeljakeaa.PPctTells Go.Proofs.YtdbihmkeljakeaaW.PrintWords Go.Proofs.YtdbihmkeljakeaaW.PrintLast Go.Proofs.YtdbihmkeljakeaaW.PrintMore Go.Proofs.Ytdbihmkeljakeaa.Utf Go.Lib
set_option linter.unusedVariables false
set_option linter.unusedSimpArgs false
set_option maxRecDepth 100000
/-- A number, from 0 to below n. -/
def uLow (x n : Int) : Int := (x % 18446744073709551616) % n
theorem uLow_b (x n : Int) (h : 0 < n) : 0 ≤ uLow x n ∧ uLow x n < n := by
  unfold uLow
  exact ⟨Int.emod_nonneg _ (by omega), Int.emod_lt_of_pos _ h⟩
theorem low_f (x n : Int) (h : 0 < n) (h1 : n < 4611686018427387904) : gossamerlaw0_Low.f x n = some (uLow x n) := by
  have e1 : IntKind.u64.wrap n = n := by simp only [IntKind.wrap, IntKind.bits, IntKind.signed]; simp; omega
  have e2 : IntKind.u64.wrap x = x % 18446744073709551616 := by simp [IntKind.wrap, IntKind.bits, IntKind.signed]
  have hb := uLow_b x n h
  unfold gossamerlaw0_Low.f
  rw [e1, e2, if_neg (by omega), Int.tmod_eq_emod_of_nonneg (Int.emod_nonneg _ (by omega))]
  show some (wrap64 (uLow x n)) = _
  rw [w64 (by omega) (by omega)]
theorem low_c (x n : Int) (w : World) (h : 0 < n) (h1 : n < 4611686018427387904) :
    Calls Try.prog 10 #[.int .i64 x, .int .i64 n] w fun e w' => e = .returned (.int .i64 (uLow x n)) ∧ Below w.heap.size w w' :=
  (gossamerlaw0_Low.calls x n _ w (low_f x n h h1)).mono fun e w' h => ⟨h.1, h.2.below⟩

set_option maxHeartbeats 2000000 in
theorem core_PctIn (s n r : Int) (w : World) (ws : (Lit.int .i64 s).wf = true) (wn : (Lit.int .i64 n).wf = true) (wr : (Lit.int .i32 r).wf = true) :
    Calls Try.prog 3 #[.int .i64 s, .int .i64 n, .int .i32 r] w fun e w' => e = .returned (.bool true) ∧ Below w.heap.size w w' := by
  have hr : -2147483648 ≤ r ∧ r < 2147483648 := R32.of_wf (xs := [r]) (fun x hx => by simp only [List.mem_singleton] at hx; subst hx; exact wr) r (by simp)
  have l1 := low_c s 9 w (by omega) (by omega)
  have l2 := fun w => low_c n 140 w (by omega) (by omega)
  have b1 := uLow_b s 9 (by omega)
  have b2 := uLow_b n 140 (by omega)
  generalize uLow s 9 = m at *
  generalize uLow n 140 = x at *
  have l1 := Lib.hid l1
  have l2 := Lib.hid l2
  clear ws wn wr
  go_enter Try.func3, Try.ntmps3
  go_wp2_with fail
  refine l1.out.mono ?_
  rintro e w1 ⟨rfl, h1⟩
  have hb1 := h1
  go_wp2_with fail
  refine (l2.out w1).mono ?_
  rintro e w2 ⟨rfl, h2⟩
  have hb2 := below_step hb1 h2
  clear h1 h2 hb1 l1 l2
  go_wp2_with fail
  refine (in_c (m - 1) x w2 (by omega) (by omega)).mono ?_
  rintro e w3 ⟨rfl, h⟩
  have hb := below_step hb2 h
  clear h hb2
  go_wp2_with fail
  refine (rin_c (m - 1) x w3).mono ?_
  rintro e w4 ⟨rfl, h⟩
  have hb4 := below_step hb h
  clear h hb
  go_wp2_with fail
  refine (in_c (m - 1) r w4 hr.1 hr.2).mono ?_
  rintro e w5 ⟨rfl, h⟩
  have hb5 := below_step hb4 h
  clear h hb4
  go_wp2_with fail
  refine (rin_c (m - 1) r w5).mono ?_
  rintro e w6 ⟨rfl, h⟩
  have hb6 := below_step hb5 h
  clear h hb5
  go_wp2_with fail
  refine (in_c s r w6 hr.1 hr.2).mono ?_
  rintro e w7 ⟨rfl, h⟩
  have hb7 := below_step hb6 h
  clear h hb6
  go_wp2_with fail
  refine (rin_c s r w7).mono ?_
  rintro e w8 ⟨rfl, h⟩
  have hb8 := below_step hb7 h
  clear h hb7
  go_wp2_with fail
  refine (awake_true w8).mono ?_
  rintro e w9 ⟨rfl, h⟩
  have hb9 := below_step hb8 h
  clear h hb8
  go_wp2_with fail
  go_ret
  exact ⟨rfl, hb9⟩

end Go.Proofs.Ytdbihmkeljakeaa.LinkPctTells
