/- What every program answers that is one: the walk of awake. No condition. -/
import Derived.Test.YtcoefbgnajaklaaLUtfTells
import Derived.Lib.SlBytesConst
namespace Go.Proofs.Ytcoefbgnajaklaa.LinkUtfTells
open Go Go.RowKit Go.Proofs.Ytcoefbgnajaklaa Go.Proofs.Ytcoefbgnajaklaa.PUtfTells Go.Proofs.YtcoefbgnajaklaaW.PrintWords Go.Proofs.YtcoefbgnajaklaaW.PrintLast Go.Proofs.YtcoefbgnajaklaaW.PrintMore Go.Proofs.Ytcoefbgnajaklaa.Utf Go.Lib
set_option linter.unusedVariables false
set_option linter.unusedSimpArgs false
set_option maxRecDepth 100000
set_option maxHeartbeats 2000000 in
theorem awake_true (w : World) : Calls Try.prog 29 #[] w fun e w' => e = .returned (.bool true) ∧ Below w.heap.size w w' := by
  have kc := fun (w : World) (C : Array Value) (n c : Nat) => Lib.run_convert_bytes_const (P := Try.prog) w 37 5 C n c Try.underlying37 Try.underlying5
  have hb0 := Below.refl w.heap.size w
  go_enter Try.func29, Try.ntmps29
  go_wp2_with fail
  have c1 := next_c (some ⟨w.heap.size, 0, none⟩) 3 [226, 130, 172] _ (C_new .u8 w 5 (0, 0) [226, 130, 172] (by simp)) (by simp) (byt_of (by decide)) (by simp)
  rw [show uNext [226, 130, 172] = (8364, 3, true) by decide] at c1
  refine c1.mono ?_
  clear c1
  rintro e w1 ⟨rfl, h1⟩
  have hb1 : Below w.heap.size w w1 := below_step (below_alloc hb0 _) h1
  clear h1 hb0
  go_wp2_with fail
  have c1 := next_c (some ⟨w1.heap.size, 0, none⟩) 2 [226, 130] _ (C_new .u8 w1 5 (0, 0) [226, 130] (by simp)) (by simp) (byt_of (by decide)) (by simp)
  rw [show uNext [226, 130] = (65533, 2, false) by decide] at c1
  refine c1.mono ?_
  clear c1
  rintro e w2 ⟨rfl, h1⟩
  have hb2 : Below w.heap.size w w2 := below_step (below_alloc hb1 _) h1
  clear h1 hb1
  go_wp2_with fail
  have c1 := valid_c (some ⟨w2.heap.size, 0, none⟩) 1 [97] _ (C_new .u8 w2 5 (1, 2) [97] (by simp)) (by simp) (byt_of (by decide)) (by simp)
  rw [show uValid [97] = true by rw [valid_step (by simp)]; simp [uNext, uLead, uTail, valid_nil]] at c1
  refine c1.mono ?_
  clear c1
  rintro e w3 ⟨rfl, h1⟩
  have hb3 : Below w.heap.size w w3 := below_step (below_alloc hb2 _) h1
  clear h1 hb2
  go_wp2_with fail
  have c1 := decode_c (some ⟨w3.heap.size, 0, none⟩) 2 [97, 98] _ (C_new .u8 w3 5 (2, 3) [97, 98] (by simp)) (by simp) (byt_of (by decide)) (by simp)
  rw [show uDec [97, 98] = [97, 98] by rw [decode_step (by simp), decode_step (by simp [uNext, uLead, uTail])]; simp [uNext, uLead, uTail, decode_nil]] at c1
  refine c1.mono ?_
  clear c1
  rintro e w4 ⟨v4, rfl, hr, h1⟩
  obtain ⟨A4, k4, rfl, -, -⟩ := Kd.R_reads hr
  clear hr
  have hb4 : Below w.heap.size w w4 := below_step (below_alloc hb3 _) h1
  clear h1 hb3
  go_wp2_with fail
  have c1 := encode_c (some ⟨w4.heap.size, 0, none⟩) 1 [65] _ (C_new .i32 w4 21 (0, 0) [65] (by simp)) (by simp) (by intro x hx; simp at hx; omega) (by simp)
  rw [show uEnc [65] = [65] by decide] at c1
  refine c1.mono ?_
  clear c1
  rintro e w5 ⟨v5, rfl, hr, h1⟩
  obtain ⟨A5, k5, rfl, -, hc5⟩ := Kd.R_reads hr
  clear hr
  have hb5 : Below w.heap.size w w5 := below_step (below_alloc hb4 _) h1
  clear h1 hb4
  have hs := Kd.C_string (c := k5) Try.underlying37 Try.underlying5 Try.underlying9 hc5
  rw [show ([65] : List Int).length = 1 from rfl, show strOfNums [65] = ⟨#[65]⟩ by decide] at hs
  go_wp2_with fail
  go_ret
  exact ⟨rfl, hb5⟩

end Go.Proofs.Ytcoefbgnajaklaa.LinkUtfTells
namespace Go.Proofs.Ytcoefbgnajaklaa.PUtfTells
open Go.RowKit Go.Proofs.YtcoefbgnajaklaaW.PrintWords
theorem gossamerlaw1_awake.calls (k : Nat) (r : Bool) (w : World) (h : gossamerlaw1_awake.f k = some r) :
    Calls Try.prog 29 #[] w fun e w' => e = .returned (.bool r) ∧ Below w.heap.size w w' := by
  have h1 := at_rounds (g := fun k => gossamerlaw1_awake.f k) (fun k => gossamerlaw1_awake.mono k) (Nat.le_add_right k 30) h
  have h2 := LinkUtfTells.awake_ok (k + 30) (by omega)
  obtain rfl : true = r := Option.some.inj (h2.symm.trans h1)
  exact LinkUtfTells.awake_true w
end Go.Proofs.Ytcoefbgnajaklaa.PUtfTells
namespace Go.Proofs.Ytcoefbgnajaklaa.LinkUtfTells

end Go.Proofs.Ytcoefbgnajaklaa.LinkUtfTells
