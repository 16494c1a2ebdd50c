/- The walk of the law SpotTells. No condition. -/
import Derived.Test.YtcoefbgnajaklaaSA
import Derived.Test.YtcoefbgnajaklaaFl
import Derived.Lib.Hide
import Derived.Lib.ConvBytes
import Derived.Laws.ComplexArith
import Derived.Laws.FloatArith
import Derived.Laws.Cover2
import Derived.Laws.Cover3
namespace Go.Proofs.Ytcoefbgnajaklaa.LinkUtfTells
open Go Go.RowKit Go.Proofs.Ytcoefbgnajaklaa Go.Proofs.Ytcoefbgnajaklaa.PUtfTells Go.Proofs.YtcoefbgnajaklaaW.PrintWords Go.Proofs.YtcoefbgnajaklaaW.PrintLast Go.Proofs.YtcoefbgnajaklaaW.PrintMore Go.Proofs.Ytcoefbgnajaklaa.Utf Go.Lib Go.Proofs.Ytcoefbgnajaklaa.Fl
set_option linter.unusedVariables false
set_option linter.unusedSimpArgs false
set_option maxRecDepth 100000
theorem uns_wd (rs : List Int) : (uns rs).length = (wd rs (0, 0)).2 := by
  induction rs with
  | nil => rfl
  | cons r rs ih =>
    have e : uns (r :: rs) = un r ++ uns rs := rfl
    have e2 : wd (r :: rs) (0, 0) = wd rs (0 + 1, 0 + if 65535 < r then 2 else 1) := rfl
    rw [e, e2, wd_eq, List.length_append, ih]
    unfold un
    split <;> simp
set_option maxHeartbeats 1000000 in
theorem rwide_c (s : ByteArray) (w : World) (hs : s.size ≤ 1000000) :
    Calls Try.prog 15 #[.string s] w fun e w' => e = .returned (.tuple #[.int .i64 ((wds [s] (0, 0)).1 : Nat), .int .i64 ((wds [s] (0, 0)).2 : Nat)]) ∧ Below w.heap.size w w' := by
  have kc := fun (w : World) (s : ByteArray) => print_bytes (P := Try.prog) 9 37 5 Try.underlying9 Try.underlying37 Try.underlying5 s w
  have hl := bs_len s
  have e1 : ((wds [s] (0, 0)).1 : Int) = ((uDec (bs s)).length : Int) := by
    have : (wds [s] (0, 0)).1 = (uDec (bs s)).length := (wd_le (uDec (bs s))).1
    rw [this]
  have e2 : ((wds [s] (0, 0)).2 : Int) = ((uns (uDec (bs s))).length : Int) := by
    have : (wds [s] (0, 0)).2 = (uns (uDec (bs s))).length := (uns_wd (uDec (bs s))).symm
    rw [this]
  rw [e1, e2]
  clear e1 e2
  go_enter Try.func15, Try.ntmps15
  go_wp2_with fail
  have k1 := rdecode_c (some ⟨w.heap.size, 0, none⟩) (grownCap w s.size 0 5) (bs s) (bytesWorld w 5 s) (bs_C w s (by omega)) (by rw [hl]; exact grownCap_ge _ _ _ _) (bs_byt s) (by omega)
  rw [hl] at k1
  refine k1.mono ?_
  clear k1
  rintro e w1 ⟨v1, rfl, ho1, hb1'⟩
  obtain ⟨A1, c1, rfl, -, -⟩ := Kd.R_reads ho1
  have hB1 := below_step (bs_below w s) hb1'
  clear ho1 hb1'
  go_wp2_with fail
  refine (runits_c s w1 hs).mono ?_
  rintro e w2 ⟨v2, rfl, ⟨b, ho2⟩, hb2⟩
  obtain ⟨A2, c2, rfl, -, -⟩ := Kd.R_reads ho2
  have hB2 := below_step hB1 hb2
  clear ho2 hb2 hB1
  go_wp2
  go_ret2
  exact ⟨by simp, hB2⟩
set_option maxHeartbeats 1000000 in
theorem spotTells_walk (s : ByteArray) (n : Int) (w : World) : 
    Calls Try.prog 3 #[.string s, .int .i64 n] w fun e w' => e = .returned (.bool true) ∧ Below w.heap.size w w' := by
  by_cases h1 : 300 < s.size
  · have d1 : decide (300 < s.size) = true := decide_eq_true h1
    go_enter Try.func3, Try.ntmps3
    go_wp2_with fail
    refine (awake3_true w).mono ?_
    rintro e w1 ⟨rfl, hb⟩
    go_wp2_with fail
    go_ret
    exact ⟨rfl, hb⟩
  have d1 : decide (300 < s.size) = false := decide_eq_false h1
  have hw := wds_bd [s] (0, 0)
  have ht : tot [s] = s.size := by simp [tot]
  have hsp := sp_le (uDec ((bs s).take n.toNat)) (1, 1) (by omega)
  have ld := decode_len _ ((bs s).take n.toNat) (Nat.le_refl _)
  rw [List.length_take, bs_len] at ld
  have k3 := fun w => rat_c s n w (by omega)
  have k4 := fun w => at_c s n w (by omega)
  have k1 := fun w => rwide_c s w (by omega)
  have k2 := fun (w : World) => wideN_c (some ⟨w.heap.size, 0, none⟩) 1 [s] _ (C_news w 9 (0, 0) [s] (by simp)) (by rw [ht]; omega) (by simp)
  generalize wds [s] (0, 0) = p at *
  obtain ⟨p1, p2⟩ := p
  generalize sp (uDec ((bs s).take n.toNat)) (1, 1) = q at *
  obtain ⟨q1, q2⟩ := q
  simp only at hw hsp
  have o1 := ord_eq p1 (by omega)
  have o2 := ord_eq p2 (by omega)
  have o3 := ord_eq q1 (by omega)
  have o4 := ord_eq q2 (by omega)
  have k5 := fun w => number_c p1 p2 w
  have k6 := fun w => number_c q1 q2 w
  have k7 := fun w => line_c q1 q2 (by omega) w
  have k8 := fun w => column_c q1 q2 (by omega) w
  have k1 := Lib.hid k1
  have k2 := Lib.hid k2
  have k3 := Lib.hid k3
  have k4 := Lib.hid k4
  have k5 := Lib.hid k5
  have k6 := Lib.hid k6
  have k7 := Lib.hid k7
  have k8 := Lib.hid k8
  go_enter Try.func3, Try.ntmps3
  go_wp2_with fail
  refine (k1.out w).mono ?_
  rintro e w1 ⟨rfl, hb1⟩
  go_wp2_with fail
  refine (k3.out w1).mono ?_
  rintro e w2 ⟨rfl, hb2⟩
  have hB2 := below_step hb1 hb2
  go_wp2_with fail
  refine (k4.out w2).mono ?_
  rintro e w3 ⟨rfl, hb3⟩
  have hB3 := below_step hB2 hb3
  go_wp2_with fail
  refine (k2.out w3).mono ?_
  rintro e w4 ⟨rfl, hb4⟩
  have hB4 := below_step hB3 (below_step (below_alloc (Below.refl _ _) _) hb4)
  clear hb1 hb2 hb3 hb4 hB2 hB3
  go_wp2_with fail
  refine (k5.out w4).mono ?_
  rintro e w5 ⟨rfl, rfl⟩
  go_wp2_with fail
  refine (k6.out w4).mono ?_
  rintro e w5 ⟨rfl, rfl⟩
  go_wp2_with fail
  refine (k7.out w4).mono ?_
  rintro e w5 ⟨rfl, rfl⟩
  go_wp2_with fail
  refine (k8.out w4).mono ?_
  rintro e w5 ⟨rfl, rfl⟩
  go_wp2_with fail
  refine (awake3_true w4).mono ?_
  rintro e w6 ⟨rfl, hb6⟩
  go_wp2_with fail
  go_ret
  exact ⟨rfl, below_step hB4 hb6⟩
theorem core_SpotTells (s : ByteArray) (n : Int) (w : World) (_h : s.size ≤ 140737488351232) (_hn : (Lit.int .i64 n).wf = true) : 
    Calls Try.prog 3 #[.string s, .int .i64 n] w fun e w' => e = .returned (.bool true) ∧ Below w.heap.size w w' := spotTells_walk s n w

end Go.Proofs.Ytcoefbgnajaklaa.LinkUtfTells
