/- Go functions come to Lean functions of the same names: walks, written by a program of the session (wip/pp.py). No condition beyond those named in each theorem. -/
import Derived.Test.YtgabddjdgcembaaPOrdx0
import Derived.Test.YtgabddjdgcembaaPOrdx1
import Derived.Test.YtgabddjdgcembaaPOrdx3
import Derived.Test.YtgabddjdgcembaaPOrdx7
import Derived.Test.YtgabddjdgcembaaPOrdx17
namespace Go.Proofs.Ytgabddjdgcembaa.POrd
open Go.RowKit Go.Proofs.YtgabddjdgcembaaW.PrintWords Go.Proofs.YtgabddjdgcembaaW.PrintLast Go.Proofs.YtgabddjdgcembaaW.PrintMore
attribute [local go_sem] max2_int min2_int max_two min_two max_three min_three max_four min_four   -- for this text's walks alone
set_option linter.unusedVariables false
set_option linter.unusedSimpArgs false

/-! ### gossamerlaw2_OrderApart: function 7 -/
mutual
def gossamerlaw2_OrderApart.j0 : Nat → ByteArray → Int → Int → ByteArray → ByteArray → Bool → Option (Bool)
  | 0, _, _, _, _, _, _ => none
  | k + 1, x0, x1, x2, x3, x4, x27 => if x27 = true then ((gossamerlaw2_awake.f k).bind fun t414 => (some t414)) else ((gossamerlaw0_Scalar.f x1).bind fun t415 => ((gossamerlaw0_Scalar.f x2).bind fun t416 => (if t415 = t416 then ((gossamerlaw2_awake.f k).bind fun t417 => (some t417)) else ((gossamerref1_Bytes.f k t415).bind fun t418 => (if x0.size + (strOfNums t418).size ≤ 9223372036854775807 then (if (x0 ++ (strOfNums t418)).size + x3.size ≤ 9223372036854775807 then ((gossamerref1_Bytes.f k t416).bind fun t421 => (if x0.size + (strOfNums t421).size ≤ 9223372036854775807 then (if (x0 ++ (strOfNums t421)).size + x4.size ≤ 9223372036854775807 then (if t415 > 65535 then (if t416 ≥ 57344 then (if t416 ≤ 65535 then (gossamerlaw2_OrderApart.j1 k t415 t416 ((x0 ++ (strOfNums t418)) ++ x3) ((x0 ++ (strOfNums t421)) ++ x4) true) else (if t416 > 65535 then (if t415 ≥ 57344 then (gossamerlaw2_OrderApart.j1 k t415 t416 ((x0 ++ (strOfNums t418)) ++ x3) ((x0 ++ (strOfNums t421)) ++ x4) (decide (t415 ≤ 65535))) else (gossamerlaw2_OrderApart.j1 k t415 t416 ((x0 ++ (strOfNums t418)) ++ x3) ((x0 ++ (strOfNums t421)) ++ x4) false)) else (gossamerlaw2_OrderApart.j1 k t415 t416 ((x0 ++ (strOfNums t418)) ++ x3) ((x0 ++ (strOfNums t421)) ++ x4) false))) else (if t416 > 65535 then (if t415 ≥ 57344 then (gossamerlaw2_OrderApart.j1 k t415 t416 ((x0 ++ (strOfNums t418)) ++ x3) ((x0 ++ (strOfNums t421)) ++ x4) (decide (t415 ≤ 65535))) else (gossamerlaw2_OrderApart.j1 k t415 t416 ((x0 ++ (strOfNums t418)) ++ x3) ((x0 ++ (strOfNums t421)) ++ x4) false)) else (gossamerlaw2_OrderApart.j1 k t415 t416 ((x0 ++ (strOfNums t418)) ++ x3) ((x0 ++ (strOfNums t421)) ++ x4) false))) else (if t416 > 65535 then (if t415 ≥ 57344 then (gossamerlaw2_OrderApart.j1 k t415 t416 ((x0 ++ (strOfNums t418)) ++ x3) ((x0 ++ (strOfNums t421)) ++ x4) (decide (t415 ≤ 65535))) else (gossamerlaw2_OrderApart.j1 k t415 t416 ((x0 ++ (strOfNums t418)) ++ x3) ((x0 ++ (strOfNums t421)) ++ x4) false)) else (gossamerlaw2_OrderApart.j1 k t415 t416 ((x0 ++ (strOfNums t418)) ++ x3) ((x0 ++ (strOfNums t421)) ++ x4) false))) else (none)) else (none))) else (none)) else (none))))))
def gossamerlaw2_OrderApart.j1 : Nat → Int → Int → ByteArray → ByteArray → Bool → Option (Bool)
  | 0, _, _, _, _, _ => none
  | k + 1, x11, x12, x13, x14, x15 => if x11 > x12 then (gossamerlaw2_OrderApart.j2 k x13 x14 x15 1) else (gossamerlaw2_OrderApart.j2 k x13 x14 x15 (-1))
def gossamerlaw2_OrderApart.j2 : Nat → ByteArray → ByteArray → Bool → Int → Option (Bool)
  | 0, _, _, _, _ => none
  | k + 1, x13, x14, x15, x16 => (order_Points.f k x13 x14).bind fun t424 => (if t424 = x16 then (if x15 = true then ((order_Compare.f k x13 x14).bind fun t425 => (if t425 = (wrap64 (-x16)) then ((gossamerlaw2_awake.f k).bind fun t426 => (some t426)) else (some false))) else ((order_Compare.f k x13 x14).bind fun t427 => (if t427 = x16 then ((gossamerlaw2_awake.f k).bind fun t428 => (some t428)) else (some false)))) else (some false))
end
def gossamerlaw2_OrderApart.f (k : Nat) (a0 : ByteArray) (a1 : Int) (a2 : Int) (a3 : ByteArray) (a4 : ByteArray) : Option (Bool) := (gossamerlaw0_Long.f k 200 (([a0, a3, a4] : List ByteArray))).bind fun t409 => (if t409 = true then (gossamerlaw2_OrderApart.j0 k a0 a1 a2 a3 a4 true) else (if a0.size ≤ 9223372036854775807 then ((gossamerref1_Valid.f k (bytesOf a0)).bind fun t413 => (gossamerlaw2_OrderApart.j0 k a0 a1 a2 a3 a4 (!t413))) else (none)))
theorem gossamerlaw2_OrderApart.mono_l : ∀ k, (∀ y0 y1 y2 y3 y4 y5, LeO (gossamerlaw2_OrderApart.j0 k y0 y1 y2 y3 y4 y5) (gossamerlaw2_OrderApart.j0 (k + 1) y0 y1 y2 y3 y4 y5)) ∧ (∀ y0 y1 y2 y3 y4, LeO (gossamerlaw2_OrderApart.j1 k y0 y1 y2 y3 y4) (gossamerlaw2_OrderApart.j1 (k + 1) y0 y1 y2 y3 y4)) ∧ (∀ y0 y1 y2 y3, LeO (gossamerlaw2_OrderApart.j2 k y0 y1 y2 y3) (gossamerlaw2_OrderApart.j2 (k + 1) y0 y1 y2 y3))
  | 0 => ⟨fun _ _ _ _ _ _ r h => by simp [gossamerlaw2_OrderApart.j0] at h, fun _ _ _ _ _ r h => by simp [gossamerlaw2_OrderApart.j1] at h, fun _ _ _ _ r h => by simp [gossamerlaw2_OrderApart.j2] at h⟩
  | k + 1 => by
    obtain ⟨ih0, ih1, ih2⟩ := gossamerlaw2_OrderApart.mono_l k
    refine ⟨?_, ?_, ?_⟩
    · intro y0 y1 y2 y3 y4 y5
      unfold gossamerlaw2_OrderApart.j0
      repeat' first
      | (with_reducible exact ih0 _ _ _ _ _ _)
      | (with_reducible exact ih1 _ _ _ _ _)
      | (with_reducible exact ih2 _ _ _ _)
      | (with_reducible exact gossamerlaw0_Long.mono _ _ _)
      | (with_reducible exact gossamerlaw2_awake.mono _)
      | (with_reducible exact gossamerref1_Bytes.mono _ _)
      | (with_reducible exact gossamerref1_Valid.mono _ _)
      | (with_reducible exact order_Compare.mono _ _ _)
      | (with_reducible exact order_Points.mono _ _ _)
      | (with_reducible exact LeO.refl _)
      | (with_reducible exact LeO.none _)
      | (with_reducible refine LeO.ite ?_ ?_)
      | (with_reducible refine LeO.bind ?_ (fun _ => ?_))
      | exact ih0 _ _ _ _ _ _
      | exact ih1 _ _ _ _ _
      | exact ih2 _ _ _ _
      | exact gossamerlaw0_Long.mono _ _ _
      | exact gossamerlaw2_awake.mono _
      | exact gossamerref1_Bytes.mono _ _
      | exact gossamerref1_Valid.mono _ _
      | exact order_Compare.mono _ _ _
      | exact order_Points.mono _ _ _
      | exact LeO.none _
      | refine LeO.ite ?_ ?_
      | refine LeO.bind ?_ (fun _ => ?_)
    · intro y0 y1 y2 y3 y4
      unfold gossamerlaw2_OrderApart.j1
      repeat' first
      | (with_reducible exact ih0 _ _ _ _ _ _)
      | (with_reducible exact ih1 _ _ _ _ _)
      | (with_reducible exact ih2 _ _ _ _)
      | (with_reducible exact gossamerlaw0_Long.mono _ _ _)
      | (with_reducible exact gossamerlaw2_awake.mono _)
      | (with_reducible exact gossamerref1_Bytes.mono _ _)
      | (with_reducible exact gossamerref1_Valid.mono _ _)
      | (with_reducible exact order_Compare.mono _ _ _)
      | (with_reducible exact order_Points.mono _ _ _)
      | (with_reducible exact LeO.refl _)
      | (with_reducible exact LeO.none _)
      | (with_reducible refine LeO.ite ?_ ?_)
      | (with_reducible refine LeO.bind ?_ (fun _ => ?_))
      | exact ih0 _ _ _ _ _ _
      | exact ih1 _ _ _ _ _
      | exact ih2 _ _ _ _
      | exact gossamerlaw0_Long.mono _ _ _
      | exact gossamerlaw2_awake.mono _
      | exact gossamerref1_Bytes.mono _ _
      | exact gossamerref1_Valid.mono _ _
      | exact order_Compare.mono _ _ _
      | exact order_Points.mono _ _ _
      | exact LeO.none _
      | refine LeO.ite ?_ ?_
      | refine LeO.bind ?_ (fun _ => ?_)
    · intro y0 y1 y2 y3
      unfold gossamerlaw2_OrderApart.j2
      repeat' first
      | (with_reducible exact ih0 _ _ _ _ _ _)
      | (with_reducible exact ih1 _ _ _ _ _)
      | (with_reducible exact ih2 _ _ _ _)
      | (with_reducible exact gossamerlaw0_Long.mono _ _ _)
      | (with_reducible exact gossamerlaw2_awake.mono _)
      | (with_reducible exact gossamerref1_Bytes.mono _ _)
      | (with_reducible exact gossamerref1_Valid.mono _ _)
      | (with_reducible exact order_Compare.mono _ _ _)
      | (with_reducible exact order_Points.mono _ _ _)
      | (with_reducible exact LeO.refl _)
      | (with_reducible exact LeO.none _)
      | (with_reducible refine LeO.ite ?_ ?_)
      | (with_reducible refine LeO.bind ?_ (fun _ => ?_))
      | exact ih0 _ _ _ _ _ _
      | exact ih1 _ _ _ _ _
      | exact ih2 _ _ _ _
      | exact gossamerlaw0_Long.mono _ _ _
      | exact gossamerlaw2_awake.mono _
      | exact gossamerref1_Bytes.mono _ _
      | exact gossamerref1_Valid.mono _ _
      | exact order_Compare.mono _ _ _
      | exact order_Points.mono _ _ _
      | exact LeO.none _
      | refine LeO.ite ?_ ?_
      | refine LeO.bind ?_ (fun _ => ?_)
theorem gossamerlaw2_OrderApart.mono : ∀ a0 a1 a2 a3 a4 k, LeO (gossamerlaw2_OrderApart.f k a0 a1 a2 a3 a4) (gossamerlaw2_OrderApart.f (k + 1) a0 a1 a2 a3 a4) := by
  intro a0 a1 a2 a3 a4 k
  obtain ⟨ih0, ih1, ih2⟩ := gossamerlaw2_OrderApart.mono_l k
  unfold gossamerlaw2_OrderApart.f
  repeat' first
      | (with_reducible exact ih0 _ _ _ _ _ _)
      | (with_reducible exact ih1 _ _ _ _ _)
      | (with_reducible exact ih2 _ _ _ _)
      | (with_reducible exact gossamerlaw0_Long.mono _ _ _)
      | (with_reducible exact gossamerlaw2_awake.mono _)
      | (with_reducible exact gossamerref1_Bytes.mono _ _)
      | (with_reducible exact gossamerref1_Valid.mono _ _)
      | (with_reducible exact order_Compare.mono _ _ _)
      | (with_reducible exact order_Points.mono _ _ _)
      | (with_reducible exact LeO.refl _)
      | (with_reducible exact LeO.none _)
      | (with_reducible refine LeO.ite ?_ ?_)
      | (with_reducible refine LeO.bind ?_ (fun _ => ?_))
      | exact ih0 _ _ _ _ _ _
      | exact ih1 _ _ _ _ _
      | exact ih2 _ _ _ _
      | exact gossamerlaw0_Long.mono _ _ _
      | exact gossamerlaw2_awake.mono _
      | exact gossamerref1_Bytes.mono _ _
      | exact gossamerref1_Valid.mono _ _
      | exact order_Compare.mono _ _ _
      | exact order_Points.mono _ _ _
      | exact LeO.none _
      | refine LeO.ite ?_ ?_
      | refine LeO.bind ?_ (fun _ => ?_)
def gossamerlaw2_OrderApart.T6 : Bool × List (List Nat × List Nat) := (true, [([], []), ([], []), ([1], [1]), ([2], [2]), ([0, 3], [0, 3]), ([], []), ([4, 5], [4, 5]), ([], []), ([], []), ([8, 2], [8]), ([9], [9]), ([7, 10], [7, 10]), ([], []), ([11, 12], [11, 12]), ([6, 9, 0, 1, 2, 3, 4, 5, 6], [6]), ([13, 14, 0, 1, 2, 3, 4, 5, 6, 7, 8, 9, 10, 11, 12, 13, 14], [13])])
def gossamerlaw2_OrderApart.B6 : List Nat := [0, 0, 2, 6, 15, 0, 63, 0, 0, 262, 774, 1926, 0, 8070, 895, 32767]
theorem gossamerlaw2_OrderApart.tab6 : rtab .any (opsOf Try.f7 6) = gossamerlaw2_OrderApart.T6 := by kernel_rfl
theorem gossamerlaw2_OrderApart.bits6 : waitsOk gossamerlaw2_OrderApart.T6.2 gossamerlaw2_OrderApart.B6 = true := by kernel_rfl
set_option maxHeartbeats 8000000 in
set_option maxRecDepth 100000 in
theorem gossamerlaw2_OrderApart.calls (k : Nat) (a0 : ByteArray) (a1 : Int) (a2 : Int) (a3 : ByteArray) (a4 : ByteArray) (r : Bool) (w : World) (h : gossamerlaw2_OrderApart.f k a0 a1 a2 a3 a4 = some r) :
    Calls Try.prog 7 #[.string a0, .int .i64 a1, .int .i64 a2, .string a3, .string a4] w fun e w' => e = .returned (.bool r) ∧ Below w.heap.size w w' := by
  have HB := Aside0.mk (Below.refl w.heap.size w)
  have H : ((gossamerlaw0_Long.f k 200 (([a0, a3, a4] : List ByteArray))).bind fun t409 => (if t409 = true then (gossamerlaw2_OrderApart.j0 k a0 a1 a2 a3 a4 true) else (if a0.size ≤ 9223372036854775807 then ((gossamerref1_Valid.f k (bytesOf a0)).bind fun t413 => (gossamerlaw2_OrderApart.j0 k a0 a1 a2 a3 a4 (!t413))) else (none)))) = some r := h
  clear h
  have HC6 := Aside0.mk H
  clear H
  go_enter Try.func7, Try.ntmps7
  go_upto_region 1 with (fail)
  go_cut [27] (fun v27 wc => ∃ (kq : Nat) (x27_5 : Bool), v27 = .bool x27_5 ∧ Aside0 (gossamerlaw2_OrderApart.j0 kq a0 a1 a2 a3 a4 x27_5 = some r) ∧ Aside0 (kq ≤ k) ∧ Aside0 (Below w.heap.size w wc))
  case first =>
    have H := HC6.out
    clear HC6
    obtain ⟨y406, hy406⟩ : ∃ y_ : List ByteArray, y_ = (([a0, a3, a4] : List ByteArray)) := ⟨_, rfl⟩
    replace H : ((gossamerlaw0_Long.f k 200 y406).bind fun t409 => (if t409 = true then (gossamerlaw2_OrderApart.j0 k a0 a1 a2 a3 a4 true) else (if a0.size ≤ 9223372036854775807 then ((gossamerref1_Valid.f k (bytesOf a0)).bind fun t413 => (gossamerlaw2_OrderApart.j0 k a0 a1 a2 a3 a4 (!t413))) else (none)))) = some r := by first | (rw [hy406]; with_reducible exact H) | (have H2_ := (Option.bind_some _ _).symm.trans H; rw [hy406]; with_reducible exact H2_) | (have H2_ := (Option.bind_some _ _).symm.trans H; with_reducible exact H2_) | with_reducible exact H | (rw [hy406]; exact H) | exact H
    have Ny406 := Aside0.mk hy406
    clear hy406
    replace H := Option.bind_eq_some_iff.mp H
    obtain ⟨t409, A70, H⟩ := H
    replace H : (if t409 = true then (gossamerlaw2_OrderApart.j0 k a0 a1 a2 a3 a4 true) else (if a0.size ≤ 9223372036854775807 then ((gossamerref1_Valid.f k (bytesOf a0)).bind fun t413 => (gossamerlaw2_OrderApart.j0 k a0 a1 a2 a3 a4 (!t413))) else (none))) = some r := H
    have A7 := Aside0.mk A70
    clear A70
    by_cases c8 : t409 = true
    · subst c8
      have H1 : (gossamerlaw2_OrderApart.j0 k a0 a1 a2 a3 a4 true) = some r := by rw [if_pos rfl] at H; exact H
      clear H
      have H := H1
      clear H1
      have H' := Aside0.mk H
      clear H
      go_wp2_with (first | ((with_reducible refine gate_dst (N := 20) rfl ?_); (try (refine gate_guard (by rfl) ?_; dsimp only)); refine Kd.R_lit Kd.string _ 9 ?hg (N := 20) ?hd (xs := ([a0, a3, a4] : List ByteArray)) (inner := [.string a0, .string a3, .string a4]) (ok := fun _ => True) (okp := fun _ => True) ?hr ?hp (fun _ hk => hk) trivial (Below.refl _ _) (Nat.le_refl _) (by simp) ?_; (case hd => rfl); (case hg => rfl); (case hr => first | (go_simp; done) | (go_simp; rfl)); (case hp => exact (Reps.one (show Kd.M Kd.string _ _ _ a0 [.string a0] from rfl) (Reps.one (show Kd.M Kd.string _ _ _ a3 [.string a3] from rfl) (Reps.one (show Kd.M Kd.string _ _ _ a4 [.string a4] from rfl) (Reps.none _ _))))); intro v407 w9 ho10 hb hg_ hnew_; clear hg_ hnew_; (first | rw [← Ny406.out] at ho10 | (simp only [Int.reduceToNat] at ho10; rw [← Ny406.out] at ho10)); have n0_ := Aside0.mk (Kd.R_lower ho10 (below_size (by repeat (first | (with_reducible first | exact HB.out | apply below_alloc | apply pw_below_drewN | apply below_drew1) | exact HB.out)))); have n1_ := Aside0.mk (below_step (by repeat (first | (with_reducible first | exact HB.out | apply below_alloc | apply pw_below_drewN | apply below_drew1) | exact HB.out)) hb); clear HB; have HO408 := n0_; have HB := n1_; clear n0_ n1_; clear hb ho10; obtain ⟨Ao11, co11, eo11⟩ := Kd.R_slice HO408.out; subst eo11) | ((with_reducible refine gate_callee (f := 10) rfl ?_); refine goesL_ (some 21) rfl rfl Try.func10 (by kernel_rfl) rfl #[.int .i64 200, .slice Ao11 y406.length co11] rfl (by (try simp only [List.map_toArray, List.map_cons, List.map_nil]); first | done | rfl | (simp only [List.length_drop, List.length_take]; rfl)) ?_; (with_reducible refine (gossamerlaw0_Long.calls k 200 _ _ y406 true _ ?side1 ?side2 A7.out).mono ?_); (case side1 => repeat (first | exact (Kd.R_reads' HO408.out).2.2 | (with_reducible refine Kd.C_alloc ?_ _) | (with_reducible refine Kd.C_drewN ?_ _) | (with_reducible refine Kd.C_drew ?_))); (case side2 => exact (Kd.R_reads' HO408.out).2.1); rintro e w' ⟨rfl, ⟨nd, rfl⟩⟩; refine ⟨_, rfl, ?_⟩))
      go_meet
      case rel => exact ⟨_, (true), (by first | rfl | (simp; done) | (simp [*]; done)), H', ⟨by first | omega | exact Nat.le_refl _⟩, ⟨by repeat (first | (with_reducible first | exact HB.out | apply below_alloc | apply pw_below_drewN | apply below_drew1) | exact HB.out)⟩⟩
    · replace c8 := Bool.eq_false_iff.mpr c8
      subst c8
      have H1 : (if a0.size ≤ 9223372036854775807 then ((gossamerref1_Valid.f k (bytesOf a0)).bind fun t413 => (gossamerlaw2_OrderApart.j0 k a0 a1 a2 a3 a4 (!t413))) else (none)) = some r := by rw [if_neg (show ¬ (false = true) by decide)] at H; exact H
      clear H
      have H := H1
      clear H1
      by_cases c12 : a0.size ≤ 9223372036854775807
      · rw [if_pos c12] at H
        have c12b0 := eq_true c12
        have c12b1 : decide (a0.size ≤ 9223372036854775807) = true := decide_eq_true c12
        try have c12b2 : (9223372036854775807 < a0.size) = False := eq_false (Nat.not_lt.2 c12)
        clear c12
        obtain ⟨y410, hy410⟩ : ∃ y_ : List Int, y_ = (bytesOf a0) := ⟨_, rfl⟩
        replace H : ((gossamerref1_Valid.f k y410).bind fun t413 => (gossamerlaw2_OrderApart.j0 k a0 a1 a2 a3 a4 (!t413))) = some r := by first | (rw [hy410]; with_reducible exact H) | (have H2_ := (Option.bind_some _ _).symm.trans H; rw [hy410]; with_reducible exact H2_) | (have H2_ := (Option.bind_some _ _).symm.trans H; with_reducible exact H2_) | with_reducible exact H | (rw [hy410]; exact H) | exact H
        have Ny410 := Aside0.mk hy410
        clear hy410
        replace H := Option.bind_eq_some_iff.mp H
        obtain ⟨t413, A130, H⟩ := H
        replace H : (gossamerlaw2_OrderApart.j0 k a0 a1 a2 a3 a4 (!t413)) = some r := H
        have A13 := Aside0.mk A130
        clear A130
        have H' := Aside0.mk H
        clear H
        go_wp2_with (first | ((with_reducible refine gate_dst (N := 20) rfl ?_); (try (refine gate_guard (by rfl) ?_; dsimp only)); refine Kd.R_lit Kd.string _ 9 ?hg (N := 20) ?hd (xs := ([a0, a3, a4] : List ByteArray)) (inner := [.string a0, .string a3, .string a4]) (ok := fun _ => True) (okp := fun _ => True) ?hr ?hp (fun _ hk => hk) trivial (Below.refl _ _) (Nat.le_refl _) (by simp) ?_; (case hd => rfl); (case hg => rfl); (case hr => first | (go_simp; done) | (go_simp; rfl)); (case hp => exact (Reps.one (show Kd.M Kd.string _ _ _ a0 [.string a0] from rfl) (Reps.one (show Kd.M Kd.string _ _ _ a3 [.string a3] from rfl) (Reps.one (show Kd.M Kd.string _ _ _ a4 [.string a4] from rfl) (Reps.none _ _))))); intro v407 w14 ho15 hb hg_ hnew_; clear hg_ hnew_; (first | rw [← Ny406.out] at ho15 | (simp only [Int.reduceToNat] at ho15; rw [← Ny406.out] at ho15)); have n0_ := Aside0.mk (Kd.R_lower ho15 (below_size (by repeat (first | (with_reducible first | exact HB.out | apply below_alloc | apply pw_below_drewN | apply below_drew1) | exact HB.out)))); have n1_ := Aside0.mk (below_step (by repeat (first | (with_reducible first | exact HB.out | apply below_alloc | apply pw_below_drewN | apply below_drew1) | exact HB.out)) hb); clear HB; have HO408 := n0_; have HB := n1_; clear n0_ n1_; clear hb ho15; obtain ⟨Ao16, co16, eo16⟩ := Kd.R_slice HO408.out; subst eo16) | ((with_reducible refine gate_callee (f := 10) rfl ?_); refine goesL_ (some 21) rfl rfl Try.func10 (by kernel_rfl) rfl #[.int .i64 200, .slice Ao16 y406.length co16] rfl (by (try simp only [List.map_toArray, List.map_cons, List.map_nil]); first | done | rfl | (simp only [List.length_drop, List.length_take]; rfl)) ?_; (with_reducible refine (gossamerlaw0_Long.calls k 200 _ _ y406 false _ ?side1 ?side2 A7.out).mono ?_); (case side1 => repeat (first | exact (Kd.R_reads' HO408.out).2.2 | (with_reducible refine Kd.C_alloc ?_ _) | (with_reducible refine Kd.C_drewN ?_ _) | (with_reducible refine Kd.C_drew ?_))); (case side2 => exact (Kd.R_reads' HO408.out).2.1); rintro e w' ⟨rfl, ⟨nd, rfl⟩⟩; refine ⟨_, rfl, ?_⟩) | ((with_reducible refine gate_dst (N := 24) rfl ?_); (try (refine gate_guard (by rfl) ?_; dsimp only)); refine Kd.V_conv (N := 24) rfl rfl 9 37 5 _ a0 rfl rfl Try.underlying9 Try.underlying37 Try.underlying5 (of_decide_eq_true (by first | (with_reducible assumption) | assumption)) ?_; intro v411 w17 ho18 hb hg_ hnew_; clear hg_ hnew_; (first | rw [← Ny410.out] at ho18 | (simp only [Int.reduceToNat] at ho18; rw [← Ny410.out] at ho18)); have n0_ := Aside0.mk (Kd.R_below (by (with_reducible repeat (first | apply Kd.R_alloc | apply Kd.R_drewN | apply Kd.R_drew)); exact HO408.out) hb); have n1_ := Aside0.mk (Kd.V_lower (Kd.V_mono (ok' := fun k_ => some k_ ≠ (.slice Ao16 y406.length co16 : Value).ownBlock) ho18 (fun k_ hk_ => (Kd.fresh' (Kd.R_lt (by (with_reducible repeat (first | apply Kd.R_alloc | apply Kd.R_drewN | apply Kd.R_drew)); exact HO408.out)) k_ hk_))) (below_size (by repeat (first | (with_reducible first | exact HB.out | apply below_alloc | apply pw_below_drewN | apply below_drew1) | exact HB.out)))); have n2_ := Aside0.mk (below_step (by repeat (first | (with_reducible first | exact HB.out | apply below_alloc | apply pw_below_drewN | apply below_drew1) | exact HB.out)) hb); clear HO408; clear HB; have HO408 := n0_; have HO412 := n1_; have HB := n2_; clear n0_ n1_ n2_; clear hb ho18; obtain ⟨Ao19, co19, eo19⟩ := Kd.V_slice HO412.out; subst eo19) | (go_at_call 23; (with_reducible refine (gossamerref1_Valid.calls k _ _ y410 t413 _ ?side1 ?side2 A13.out).mono ?_); (case side1 => repeat (first | exact (Kd.V_reads' HO412.out).2.2 | (with_reducible refine Kd.C_alloc ?_ _) | (with_reducible refine Kd.C_drewN ?_ _) | (with_reducible refine Kd.C_drew ?_))); (case side2 => exact (Kd.V_reads' HO412.out).2.1); rintro e w' ⟨rfl, ⟨nd, rfl⟩⟩))
        go_meet
        case rel => exact ⟨_, (!t413), (by first | rfl | (simp; done) | (simp [*]; done)), H', ⟨by first | omega | exact Nat.le_refl _⟩, ⟨by repeat (first | (with_reducible first | exact HB.out | apply below_alloc | apply pw_below_drewN | apply below_drew1) | exact HB.out)⟩⟩
      · rw [if_neg c12] at H
        exact absurd H (by simp)
  case rest =>
    clear HC6
    try clear c1
    try clear p2
    try clear c7
    try clear c8
    try clear c10
    try clear c12
    try clear c12b0
    try clear c12b1
    try clear c12b2
    obtain ⟨kq, x27_5, rfl, HA, HJ5, HB⟩ := hcut
    cases kq with
    | zero => exact absurd HA.out (by simp [gossamerlaw2_OrderApart.j0])
    | succ kj5 =>
      have H := HA.out
      clear HA
      simp only [gossamerlaw2_OrderApart.j0] at H
      by_cases c20 : x27_5 = true
      · subst c20
        have H1 : ((gossamerlaw2_awake.f kj5).bind fun t414 => (some t414)) = some r := by rw [if_pos rfl] at H; exact H
        clear H
        have H := H1
        clear H1
        replace H := Option.bind_eq_some_iff.mp H
        obtain ⟨t414, A210, H⟩ := H
        replace H : (some t414) = some r := H
        have A21 := Aside0.mk A210
        clear A210
        obtain rfl := Option.some.inj H
        go_wp2_with (first | ((with_reducible refine gate_callee (f := 11) rfl ?_); refine goesL_ (some 28) rfl rfl Try.func11 (by kernel_rfl) rfl #[] rfl (by (try simp only [List.map_toArray, List.map_cons, List.map_nil]); first | done | rfl | (simp only [List.length_drop, List.length_take]; rfl)) ?_; (with_reducible refine (gossamerlaw2_awake.calls kj5  t414 _ A21.out).mono ?_); rintro e w22 ⟨rfl, hb⟩; refine ⟨_, rfl, ?_⟩; have n0_ := Aside0.mk (below_step (by repeat (first | (with_reducible first | exact HB.out | apply below_alloc | apply pw_below_drewN | apply below_drew1) | exact HB.out)) hb); clear HB; have HB := n0_; clear n0_; (try clear hb); (try clear hb2); (try clear hk); (try clear hi)))
        go_ret
        exact ⟨by first | rfl | (simp [errW_none, errW_some] <;> rfl) | (simp [*, errW_none, errW_some] <;> rfl), by repeat (first | (with_reducible first | exact HB.out | apply below_alloc | apply pw_below_drewN | apply below_drew1) | exact HB.out)⟩
      · replace c20 := Bool.eq_false_iff.mpr c20
        subst c20
        have H1 : ((gossamerlaw0_Scalar.f a1).bind fun t415 => ((gossamerlaw0_Scalar.f a2).bind fun t416 => (if t415 = t416 then ((gossamerlaw2_awake.f kj5).bind fun t417 => (some t417)) else ((gossamerref1_Bytes.f kj5 t415).bind fun t418 => (if a0.size + (strOfNums t418).size ≤ 9223372036854775807 then (if (a0 ++ (strOfNums t418)).size + a3.size ≤ 9223372036854775807 then ((gossamerref1_Bytes.f kj5 t416).bind fun t421 => (if a0.size + (strOfNums t421).size ≤ 9223372036854775807 then (if (a0 ++ (strOfNums t421)).size + a4.size ≤ 9223372036854775807 then (if t415 > 65535 then (if t416 ≥ 57344 then (if t416 ≤ 65535 then (gossamerlaw2_OrderApart.j1 kj5 t415 t416 ((a0 ++ (strOfNums t418)) ++ a3) ((a0 ++ (strOfNums t421)) ++ a4) true) else (if t416 > 65535 then (if t415 ≥ 57344 then (gossamerlaw2_OrderApart.j1 kj5 t415 t416 ((a0 ++ (strOfNums t418)) ++ a3) ((a0 ++ (strOfNums t421)) ++ a4) (decide (t415 ≤ 65535))) else (gossamerlaw2_OrderApart.j1 kj5 t415 t416 ((a0 ++ (strOfNums t418)) ++ a3) ((a0 ++ (strOfNums t421)) ++ a4) false)) else (gossamerlaw2_OrderApart.j1 kj5 t415 t416 ((a0 ++ (strOfNums t418)) ++ a3) ((a0 ++ (strOfNums t421)) ++ a4) false))) else (if t416 > 65535 then (if t415 ≥ 57344 then (gossamerlaw2_OrderApart.j1 kj5 t415 t416 ((a0 ++ (strOfNums t418)) ++ a3) ((a0 ++ (strOfNums t421)) ++ a4) (decide (t415 ≤ 65535))) else (gossamerlaw2_OrderApart.j1 kj5 t415 t416 ((a0 ++ (strOfNums t418)) ++ a3) ((a0 ++ (strOfNums t421)) ++ a4) false)) else (gossamerlaw2_OrderApart.j1 kj5 t415 t416 ((a0 ++ (strOfNums t418)) ++ a3) ((a0 ++ (strOfNums t421)) ++ a4) false))) else (if t416 > 65535 then (if t415 ≥ 57344 then (gossamerlaw2_OrderApart.j1 kj5 t415 t416 ((a0 ++ (strOfNums t418)) ++ a3) ((a0 ++ (strOfNums t421)) ++ a4) (decide (t415 ≤ 65535))) else (gossamerlaw2_OrderApart.j1 kj5 t415 t416 ((a0 ++ (strOfNums t418)) ++ a3) ((a0 ++ (strOfNums t421)) ++ a4) false)) else (gossamerlaw2_OrderApart.j1 kj5 t415 t416 ((a0 ++ (strOfNums t418)) ++ a3) ((a0 ++ (strOfNums t421)) ++ a4) false))) else (none)) else (none))) else (none)) else (none)))))) = some r := by rw [if_neg (show ¬ (false = true) by decide)] at H; exact H
        clear H
        have H := H1
        clear H1
        replace H := Option.bind_eq_some_iff.mp H
        obtain ⟨t415, A230, H⟩ := H
        replace H : ((gossamerlaw0_Scalar.f a2).bind fun t416 => (if t415 = t416 then ((gossamerlaw2_awake.f kj5).bind fun t417 => (some t417)) else ((gossamerref1_Bytes.f kj5 t415).bind fun t418 => (if a0.size + (strOfNums t418).size ≤ 9223372036854775807 then (if (a0 ++ (strOfNums t418)).size + a3.size ≤ 9223372036854775807 then ((gossamerref1_Bytes.f kj5 t416).bind fun t421 => (if a0.size + (strOfNums t421).size ≤ 9223372036854775807 then (if (a0 ++ (strOfNums t421)).size + a4.size ≤ 9223372036854775807 then (if t415 > 65535 then (if t416 ≥ 57344 then (if t416 ≤ 65535 then (gossamerlaw2_OrderApart.j1 kj5 t415 t416 ((a0 ++ (strOfNums t418)) ++ a3) ((a0 ++ (strOfNums t421)) ++ a4) true) else (if t416 > 65535 then (if t415 ≥ 57344 then (gossamerlaw2_OrderApart.j1 kj5 t415 t416 ((a0 ++ (strOfNums t418)) ++ a3) ((a0 ++ (strOfNums t421)) ++ a4) (decide (t415 ≤ 65535))) else (gossamerlaw2_OrderApart.j1 kj5 t415 t416 ((a0 ++ (strOfNums t418)) ++ a3) ((a0 ++ (strOfNums t421)) ++ a4) false)) else (gossamerlaw2_OrderApart.j1 kj5 t415 t416 ((a0 ++ (strOfNums t418)) ++ a3) ((a0 ++ (strOfNums t421)) ++ a4) false))) else (if t416 > 65535 then (if t415 ≥ 57344 then (gossamerlaw2_OrderApart.j1 kj5 t415 t416 ((a0 ++ (strOfNums t418)) ++ a3) ((a0 ++ (strOfNums t421)) ++ a4) (decide (t415 ≤ 65535))) else (gossamerlaw2_OrderApart.j1 kj5 t415 t416 ((a0 ++ (strOfNums t418)) ++ a3) ((a0 ++ (strOfNums t421)) ++ a4) false)) else (gossamerlaw2_OrderApart.j1 kj5 t415 t416 ((a0 ++ (strOfNums t418)) ++ a3) ((a0 ++ (strOfNums t421)) ++ a4) false))) else (if t416 > 65535 then (if t415 ≥ 57344 then (gossamerlaw2_OrderApart.j1 kj5 t415 t416 ((a0 ++ (strOfNums t418)) ++ a3) ((a0 ++ (strOfNums t421)) ++ a4) (decide (t415 ≤ 65535))) else (gossamerlaw2_OrderApart.j1 kj5 t415 t416 ((a0 ++ (strOfNums t418)) ++ a3) ((a0 ++ (strOfNums t421)) ++ a4) false)) else (gossamerlaw2_OrderApart.j1 kj5 t415 t416 ((a0 ++ (strOfNums t418)) ++ a3) ((a0 ++ (strOfNums t421)) ++ a4) false))) else (none)) else (none))) else (none)) else (none))))) = some r := H
        have A23 := Aside0.mk A230
        clear A230
        replace H := Option.bind_eq_some_iff.mp H
        obtain ⟨t416, A240, H⟩ := H
        replace H : (if t415 = t416 then ((gossamerlaw2_awake.f kj5).bind fun t417 => (some t417)) else ((gossamerref1_Bytes.f kj5 t415).bind fun t418 => (if a0.size + (strOfNums t418).size ≤ 9223372036854775807 then (if (a0 ++ (strOfNums t418)).size + a3.size ≤ 9223372036854775807 then ((gossamerref1_Bytes.f kj5 t416).bind fun t421 => (if a0.size + (strOfNums t421).size ≤ 9223372036854775807 then (if (a0 ++ (strOfNums t421)).size + a4.size ≤ 9223372036854775807 then (if t415 > 65535 then (if t416 ≥ 57344 then (if t416 ≤ 65535 then (gossamerlaw2_OrderApart.j1 kj5 t415 t416 ((a0 ++ (strOfNums t418)) ++ a3) ((a0 ++ (strOfNums t421)) ++ a4) true) else (if t416 > 65535 then (if t415 ≥ 57344 then (gossamerlaw2_OrderApart.j1 kj5 t415 t416 ((a0 ++ (strOfNums t418)) ++ a3) ((a0 ++ (strOfNums t421)) ++ a4) (decide (t415 ≤ 65535))) else (gossamerlaw2_OrderApart.j1 kj5 t415 t416 ((a0 ++ (strOfNums t418)) ++ a3) ((a0 ++ (strOfNums t421)) ++ a4) false)) else (gossamerlaw2_OrderApart.j1 kj5 t415 t416 ((a0 ++ (strOfNums t418)) ++ a3) ((a0 ++ (strOfNums t421)) ++ a4) false))) else (if t416 > 65535 then (if t415 ≥ 57344 then (gossamerlaw2_OrderApart.j1 kj5 t415 t416 ((a0 ++ (strOfNums t418)) ++ a3) ((a0 ++ (strOfNums t421)) ++ a4) (decide (t415 ≤ 65535))) else (gossamerlaw2_OrderApart.j1 kj5 t415 t416 ((a0 ++ (strOfNums t418)) ++ a3) ((a0 ++ (strOfNums t421)) ++ a4) false)) else (gossamerlaw2_OrderApart.j1 kj5 t415 t416 ((a0 ++ (strOfNums t418)) ++ a3) ((a0 ++ (strOfNums t421)) ++ a4) false))) else (if t416 > 65535 then (if t415 ≥ 57344 then (gossamerlaw2_OrderApart.j1 kj5 t415 t416 ((a0 ++ (strOfNums t418)) ++ a3) ((a0 ++ (strOfNums t421)) ++ a4) (decide (t415 ≤ 65535))) else (gossamerlaw2_OrderApart.j1 kj5 t415 t416 ((a0 ++ (strOfNums t418)) ++ a3) ((a0 ++ (strOfNums t421)) ++ a4) false)) else (gossamerlaw2_OrderApart.j1 kj5 t415 t416 ((a0 ++ (strOfNums t418)) ++ a3) ((a0 ++ (strOfNums t421)) ++ a4) false))) else (none)) else (none))) else (none)) else (none)))) = some r := H
        have A24 := Aside0.mk A240
        clear A240
        by_cases c25 : t415 = t416
        · rw [if_pos c25] at H
          have c25b0 : (t415 == t416) = true := beq_iff_eq.mpr c25
          have c25b1 : (t415 != t416) = false := bne_eq_false_iff_eq.mpr c25
          clear c25
          replace H := Option.bind_eq_some_iff.mp H
          obtain ⟨t417, A260, H⟩ := H
          replace H : (some t417) = some r := H
          have A26 := Aside0.mk A260
          clear A260
          obtain rfl := Option.some.inj H
          go_wp2_with (first | ((with_reducible refine gate_callee (f := 24) rfl ?_); refine goesL_ (some 30) rfl rfl Try.func24 (by kernel_rfl) rfl #[.int .i64 a1] rfl (by (try simp only [List.map_toArray, List.map_cons, List.map_nil]); first | done | rfl | (simp only [List.length_drop, List.length_take]; rfl)) ?_; (with_reducible refine (gossamerlaw0_Scalar.calls a1 t415 _ A23.out).mono ?_); rintro e w' ⟨rfl, ⟨nd, rfl⟩⟩; refine ⟨_, rfl, ?_⟩) | ((with_reducible refine gate_callee (f := 24) rfl ?_); refine goesL_ (some 32) rfl rfl Try.func24 (by kernel_rfl) rfl #[.int .i64 a2] rfl (by (try simp only [List.map_toArray, List.map_cons, List.map_nil]); first | done | rfl | (simp only [List.length_drop, List.length_take]; rfl)) ?_; (with_reducible refine (gossamerlaw0_Scalar.calls a2 t416 _ A24.out).mono ?_); rintro e w' ⟨rfl, ⟨nd, rfl⟩⟩; refine ⟨_, rfl, ?_⟩) | ((with_reducible refine gate_callee (f := 11) rfl ?_); refine goesL_ (some 36) rfl rfl Try.func11 (by kernel_rfl) rfl #[] rfl (by (try simp only [List.map_toArray, List.map_cons, List.map_nil]); first | done | rfl | (simp only [List.length_drop, List.length_take]; rfl)) ?_; (with_reducible refine (gossamerlaw2_awake.calls kj5  t417 _ A26.out).mono ?_); rintro e w27 ⟨rfl, hb⟩; refine ⟨_, rfl, ?_⟩; have n0_ := Aside0.mk (below_step (by repeat (first | (with_reducible first | exact HB.out | apply below_alloc | apply pw_below_drewN | apply below_drew1) | exact HB.out)) hb); clear HB; have HB := n0_; clear n0_; (try clear hb); (try clear hb2); (try clear hk); (try clear hi)))
          go_ret
          exact ⟨by first | rfl | (simp [errW_none, errW_some] <;> rfl) | (simp [*, errW_none, errW_some] <;> rfl), by repeat (first | (with_reducible first | exact HB.out | apply below_alloc | apply pw_below_drewN | apply below_drew1) | exact HB.out)⟩
        · rw [if_neg c25] at H
          have c25b0 : (t415 == t416) = false := beq_eq_false_iff_ne.mpr c25
          have c25b1 : (t415 != t416) = true := bne_iff_ne.mpr c25
          replace H := Option.bind_eq_some_iff.mp H
          obtain ⟨t418, A280, H⟩ := H
          replace H : (if a0.size + (strOfNums t418).size ≤ 9223372036854775807 then (if (a0 ++ (strOfNums t418)).size + a3.size ≤ 9223372036854775807 then ((gossamerref1_Bytes.f kj5 t416).bind fun t421 => (if a0.size + (strOfNums t421).size ≤ 9223372036854775807 then (if (a0 ++ (strOfNums t421)).size + a4.size ≤ 9223372036854775807 then (if t415 > 65535 then (if t416 ≥ 57344 then (if t416 ≤ 65535 then (gossamerlaw2_OrderApart.j1 kj5 t415 t416 ((a0 ++ (strOfNums t418)) ++ a3) ((a0 ++ (strOfNums t421)) ++ a4) true) else (if t416 > 65535 then (if t415 ≥ 57344 then (gossamerlaw2_OrderApart.j1 kj5 t415 t416 ((a0 ++ (strOfNums t418)) ++ a3) ((a0 ++ (strOfNums t421)) ++ a4) (decide (t415 ≤ 65535))) else (gossamerlaw2_OrderApart.j1 kj5 t415 t416 ((a0 ++ (strOfNums t418)) ++ a3) ((a0 ++ (strOfNums t421)) ++ a4) false)) else (gossamerlaw2_OrderApart.j1 kj5 t415 t416 ((a0 ++ (strOfNums t418)) ++ a3) ((a0 ++ (strOfNums t421)) ++ a4) false))) else (if t416 > 65535 then (if t415 ≥ 57344 then (gossamerlaw2_OrderApart.j1 kj5 t415 t416 ((a0 ++ (strOfNums t418)) ++ a3) ((a0 ++ (strOfNums t421)) ++ a4) (decide (t415 ≤ 65535))) else (gossamerlaw2_OrderApart.j1 kj5 t415 t416 ((a0 ++ (strOfNums t418)) ++ a3) ((a0 ++ (strOfNums t421)) ++ a4) false)) else (gossamerlaw2_OrderApart.j1 kj5 t415 t416 ((a0 ++ (strOfNums t418)) ++ a3) ((a0 ++ (strOfNums t421)) ++ a4) false))) else (if t416 > 65535 then (if t415 ≥ 57344 then (gossamerlaw2_OrderApart.j1 kj5 t415 t416 ((a0 ++ (strOfNums t418)) ++ a3) ((a0 ++ (strOfNums t421)) ++ a4) (decide (t415 ≤ 65535))) else (gossamerlaw2_OrderApart.j1 kj5 t415 t416 ((a0 ++ (strOfNums t418)) ++ a3) ((a0 ++ (strOfNums t421)) ++ a4) false)) else (gossamerlaw2_OrderApart.j1 kj5 t415 t416 ((a0 ++ (strOfNums t418)) ++ a3) ((a0 ++ (strOfNums t421)) ++ a4) false))) else (none)) else (none))) else (none)) else (none)) = some r := H
          have A28 := Aside0.mk A280
          clear A280
          by_cases c29 : a0.size + (strOfNums t418).size ≤ 9223372036854775807
          · rw [if_pos c29] at H
            have c29b0 := eq_true c29
            have c29b1 : decide (a0.size + (strOfNums t418).size ≤ 9223372036854775807) = true := decide_eq_true c29
            try have c29b2 : (9223372036854775807 < a0.size + (strOfNums t418).size) = False := eq_false (Nat.not_lt.2 c29)
            by_cases c30 : (a0 ++ (strOfNums t418)).size + a3.size ≤ 9223372036854775807
            · rw [if_pos c30] at H
              have c30b0 := eq_true c30
              have c30b1 : decide ((a0 ++ (strOfNums t418)).size + a3.size ≤ 9223372036854775807) = true := decide_eq_true c30
              try have c30b2 : (9223372036854775807 < (a0 ++ (strOfNums t418)).size + a3.size) = False := eq_false (Nat.not_lt.2 c30)
              (try (have c30b3 := c30b2; simp only [ByteArray.size_append] at c30b3))
              replace H := Option.bind_eq_some_iff.mp H
              obtain ⟨t421, A310, H⟩ := H
              replace H : (if a0.size + (strOfNums t421).size ≤ 9223372036854775807 then (if (a0 ++ (strOfNums t421)).size + a4.size ≤ 9223372036854775807 then (if t415 > 65535 then (if t416 ≥ 57344 then (if t416 ≤ 65535 then (gossamerlaw2_OrderApart.j1 kj5 t415 t416 ((a0 ++ (strOfNums t418)) ++ a3) ((a0 ++ (strOfNums t421)) ++ a4) true) else (if t416 > 65535 then (if t415 ≥ 57344 then (gossamerlaw2_OrderApart.j1 kj5 t415 t416 ((a0 ++ (strOfNums t418)) ++ a3) ((a0 ++ (strOfNums t421)) ++ a4) (decide (t415 ≤ 65535))) else (gossamerlaw2_OrderApart.j1 kj5 t415 t416 ((a0 ++ (strOfNums t418)) ++ a3) ((a0 ++ (strOfNums t421)) ++ a4) false)) else (gossamerlaw2_OrderApart.j1 kj5 t415 t416 ((a0 ++ (strOfNums t418)) ++ a3) ((a0 ++ (strOfNums t421)) ++ a4) false))) else (if t416 > 65535 then (if t415 ≥ 57344 then (gossamerlaw2_OrderApart.j1 kj5 t415 t416 ((a0 ++ (strOfNums t418)) ++ a3) ((a0 ++ (strOfNums t421)) ++ a4) (decide (t415 ≤ 65535))) else (gossamerlaw2_OrderApart.j1 kj5 t415 t416 ((a0 ++ (strOfNums t418)) ++ a3) ((a0 ++ (strOfNums t421)) ++ a4) false)) else (gossamerlaw2_OrderApart.j1 kj5 t415 t416 ((a0 ++ (strOfNums t418)) ++ a3) ((a0 ++ (strOfNums t421)) ++ a4) false))) else (if t416 > 65535 then (if t415 ≥ 57344 then (gossamerlaw2_OrderApart.j1 kj5 t415 t416 ((a0 ++ (strOfNums t418)) ++ a3) ((a0 ++ (strOfNums t421)) ++ a4) (decide (t415 ≤ 65535))) else (gossamerlaw2_OrderApart.j1 kj5 t415 t416 ((a0 ++ (strOfNums t418)) ++ a3) ((a0 ++ (strOfNums t421)) ++ a4) false)) else (gossamerlaw2_OrderApart.j1 kj5 t415 t416 ((a0 ++ (strOfNums t418)) ++ a3) ((a0 ++ (strOfNums t421)) ++ a4) false))) else (none)) else (none)) = some r := H
              have A31 := Aside0.mk A310
              clear A310
              by_cases c32 : a0.size + (strOfNums t421).size ≤ 9223372036854775807
              · rw [if_pos c32] at H
                have c32b0 := eq_true c32
                have c32b1 : decide (a0.size + (strOfNums t421).size ≤ 9223372036854775807) = true := decide_eq_true c32
                try have c32b2 : (9223372036854775807 < a0.size + (strOfNums t421).size) = False := eq_false (Nat.not_lt.2 c32)
                by_cases c33 : (a0 ++ (strOfNums t421)).size + a4.size ≤ 9223372036854775807
                · rw [if_pos c33] at H
                  have c33b0 := eq_true c33
                  have c33b1 : decide ((a0 ++ (strOfNums t421)).size + a4.size ≤ 9223372036854775807) = true := decide_eq_true c33
                  try have c33b2 : (9223372036854775807 < (a0 ++ (strOfNums t421)).size + a4.size) = False := eq_false (Nat.not_lt.2 c33)
                  (try (have c33b3 := c33b2; simp only [ByteArray.size_append] at c33b3))
                  have HC34 := Aside0.mk H
                  clear H
                  try go_wp2_with (first | ((with_reducible refine gate_callee (f := 24) rfl ?_); refine goesL_ (some 30) rfl rfl Try.func24 (by kernel_rfl) rfl #[.int .i64 a1] rfl (by (try simp only [List.map_toArray, List.map_cons, List.map_nil]); first | done | rfl | (simp only [List.length_drop, List.length_take]; rfl)) ?_; (with_reducible refine (gossamerlaw0_Scalar.calls a1 t415 _ A23.out).mono ?_); rintro e w' ⟨rfl, ⟨nd, rfl⟩⟩; refine ⟨_, rfl, ?_⟩) | ((with_reducible refine gate_callee (f := 24) rfl ?_); refine goesL_ (some 32) rfl rfl Try.func24 (by kernel_rfl) rfl #[.int .i64 a2] rfl (by (try simp only [List.map_toArray, List.map_cons, List.map_nil]); first | done | rfl | (simp only [List.length_drop, List.length_take]; rfl)) ?_; (with_reducible refine (gossamerlaw0_Scalar.calls a2 t416 _ A24.out).mono ?_); rintro e w' ⟨rfl, ⟨nd, rfl⟩⟩; refine ⟨_, rfl, ?_⟩))
                  (try (rw [drewN_self wc]; generalize hq_ : World.drewN wc _ = wc; have n0_ : Aside0 (Below w.heap.size w wc) := ⟨by rw [← hq_]; exact (by repeat (first | (with_reducible first | exact HB.out | apply below_alloc | apply pw_below_drewN | apply below_drew1) | exact HB.out))⟩; clear HB hq_; have HB := n0_; clear n0_))
                  have n0_ := Aside0.mk (below_drew1 HB.out)
                  clear HB
                  have HB := n0_
                  clear n0_
                  refine start_ (n := 16) (S := fun w' => True) (ds := []) #[false, false, false, false, false, false, false, false, false, false, false, false, false, false, false, false] (by kernel_rfl) rfl rfl trivial (fun hHeld => ?_); refine with_tabW gossamerlaw2_OrderApart.tab6 gossamerlaw2_OrderApart.bits6 (fun HT_ HW_ => ?_)
                  generalize wc.drew = w35 at HB hHeld ⊢
                  refine pure_ (i := 0) (N := some 37) (v := ?_) (a' := ?_) #[true, false, false, false, false, false, false, false, false, false, false, false, false, false, false, false] rfl rfl (any_of HT_.out (by kernel_rfl)) (fun _ _ _ h => h) (Or.inl ⟨by rfl, ?_⟩) ?_ ?_
                  rotate_left
                  · intro w'
                    go_simp
                    with_reducible rfl
                  rotate_left
                  · simp only [Act.put, List.setIfInBounds_toArray, List.set_cons_zero, List.set_cons_succ, i64_w, i32_w]
                    rfl
                  refine pure_ (i := 1) (N := some 38) (v := ?_) (a' := ?_) #[true, true, false, false, false, false, false, false, false, false, false, false, false, false, false, false] rfl rfl (any_of HT_.out (by kernel_rfl)) (fun _ _ _ h => h) (Or.inl ⟨by rfl, ?_⟩) ?_ ?_
                  rotate_left
                  · intro w'
                    go_simp
                    with_reducible rfl
                  rotate_left
                  · simp only [Act.put, List.setIfInBounds_toArray, List.set_cons_zero, List.set_cons_succ, i64_w, i32_w]
                    rfl
                  refine pure_ (i := 5) (N := some 42) (v := ?_) (a' := ?_) #[true, true, false, false, false, true, false, false, false, false, false, false, false, false, false, false] rfl rfl (any_of HT_.out (by kernel_rfl)) (fun _ _ _ h => h) (Or.inl ⟨by rfl, ?_⟩) ?_ ?_
                  rotate_left
                  · intro w'
                    go_simp
                    with_reducible rfl
                  rotate_left
                  · simp only [Act.put, List.setIfInBounds_toArray, List.set_cons_zero, List.set_cons_succ, i64_w, i32_w]
                    rfl
                  refine pure_ (i := 7) (N := some 44) (v := ?_) (a' := ?_) #[true, true, false, false, false, true, false, true, false, false, false, false, false, false, false, false] rfl rfl (any_of HT_.out (by kernel_rfl)) (fun _ _ _ h => h) (Or.inl ⟨by rfl, ?_⟩) ?_ ?_
                  rotate_left
                  · intro w'
                    go_simp
                    with_reducible rfl
                  rotate_left
                  · simp only [Act.put, List.setIfInBounds_toArray, List.set_cons_zero, List.set_cons_succ, i64_w, i32_w]
                    rfl
                  refine pure_ (i := 8) (N := some 45) (v := ?_) (a' := ?_) #[true, true, false, false, false, true, false, true, true, false, false, false, false, false, false, false] rfl rfl (any_of HT_.out (by kernel_rfl)) (fun _ _ _ h => h) (Or.inl ⟨by rfl, ?_⟩) ?_ ?_
                  rotate_left
                  · intro w'
                    go_simp
                    with_reducible rfl
                  rotate_left
                  · simp only [Act.put, List.setIfInBounds_toArray, List.set_cons_zero, List.set_cons_succ, i64_w, i32_w]
                    rfl
                  refine pure_ (i := 12) (N := some 49) (v := ?_) (a' := ?_) #[true, true, false, false, false, true, false, true, true, false, false, false, true, false, false, false] rfl rfl (any_of HT_.out (by kernel_rfl)) (fun _ _ _ h => h) (Or.inl ⟨by rfl, ?_⟩) ?_ ?_
                  rotate_left
                  · intro w'
                    go_simp
                    with_reducible rfl
                  rotate_left
                  · simp only [Act.put, List.setIfInBounds_toArray, List.set_cons_zero, List.set_cons_succ, i64_w, i32_w]
                    rfl
                  refine one_ (i := 2) (N := some 39) #[true, true, true, false, false, true, false, true, true, false, false, false, true, false, false, false] rfl rfl (one_of HT_.out (by kernel_rfl)) (by decide) (fun K hK => ?_)
                  refine goes_ Try.func25 (by kernel_rfl) rfl #[.int .i32 t415] (by rfl) rfl rfl (by (try simp only [List.map_toArray, List.map_cons, List.map_nil]); first | done | rfl | (simp only [List.length_drop, List.length_take]; rfl)) ?_
                  with_reducible refine (gossamerref1_Bytes.calls kj5 t415 t418 _ A28.out).mono ?_
                  rintro e w36 ⟨v419, rfl, ho0, hb⟩
                  refine ⟨_, rfl, ?_⟩
                  have n0_ := Aside0.mk (Kd.R_lower ho0 (below_size (by repeat (first | (with_reducible first | exact HB.out | apply below_alloc | apply pw_below_drewN | apply below_drew1) | exact HB.out))))
                  have n1_ := Aside0.mk (below_step (by repeat (first | (with_reducible first | exact HB.out | apply below_alloc | apply pw_below_drewN | apply below_drew1) | exact HB.out)) hb)
                  clear HB
                  have HO420 := n0_
                  have HB := n1_
                  clear n0_ n1_
                  (try clear hb)
                  (try clear hb2)
                  (try clear hk)
                  (try clear hi)
                  (try clear ho0)
                  refine hK.out _ _ trivial (fun hHeld => ?_)
                  clear hK K
                  refine norm_ (a' := ?_) ?_ ?_
                  rotate_left
                  · show Act.put _ (some 39) _ = _
                    simp only [Act.put, List.setIfInBounds_toArray, List.set_cons_zero, List.set_cons_succ, i64_w, i32_w]
                    rfl
                  refine join_ (σ := Value) 1 #[true, true, true, true, true, true, true, true, true, true, true, true, true, true, true, false] (fun s_ => [(40, .string (strOfNums t418)), (46, s_), (47, .string (strOfNums t421)), (41, .string (a0 ++ (strOfNums t418))), (43, .string ((a0 ++ (strOfNums t418)) ++ a3)), (48, .string (a0 ++ (strOfNums t421))), (50, .string ((a0 ++ (strOfNums t421)) ++ a4)), (13, .string ((a0 ++ (strOfNums t418)) ++ a3))]) (fun s_ w' => (Kd.R (Kd.int .u8) 5 w' w.heap.size (fun k_ => some k_ ≠ (s_ : Value).ownBlock) v419 t418) ∧ (Kd.R (Kd.int .u8) 5 w' w.heap.size (fun k_ => some k_ ≠ (v419 : Value).ownBlock) s_ t421) ∧ (Below w.heap.size w w')) ?_ ?_
                  rotate_left
                  · intro hCont
                    refine two_ (i := 3) (j := 9) (Ni := some 40) (Nj := some 46) #[true, true, true, true, false, true, false, true, true, false, false, false, true, false, false, false] #[true, true, true, false, false, true, false, true, true, true, false, false, true, false, false, false] rfl rfl rfl rfl (two_of HT_.out (by kernel_rfl)) (by decide) (by decide) (fun K hK => ?_) (fun K hK => ?_)
                    · skip
                      have hcv37 := own_string (P := Try.prog) Try.underlying37 Try.underlying5 Try.underlying9 (Kd.own_of_R HO420.out)
                      refine value_ (w1 := ?_) (v := ?_) (by rfl) rfl ?_ ?_
                      rotate_left 2
                      · go_simp
                        constructor
                        · rfl
                        · rfl
                      clear hcv37
                      refine hK.out _ _ trivial (fun hHeld => ?_)
                      clear hK K
                      refine norm_ (a' := ?_) ?_ ?_
                      rotate_left
                      · show Act.put _ (some 40) _ = _
                        simp only [Act.put, List.setIfInBounds_toArray, List.set_cons_zero, List.set_cons_succ, i64_w, i32_w]
                        rfl
                      refine pure_ (i := 4) (N := some 41) (v := ?_) (a' := ?_) #[true, true, true, true, true, true, false, true, true, false, false, false, true, false, false, false] rfl rfl (any_of HT_.out (by kernel_rfl)) (fun _ _ _ h => h) (Or.inl ⟨by rfl, ?_⟩) ?_ ?_
                      rotate_left
                      · intro w'
                        go_simp
                        with_reducible rfl
                      rotate_left
                      · simp only [Act.put, List.setIfInBounds_toArray, List.set_cons_zero, List.set_cons_succ, i64_w, i32_w]
                        rfl
                      refine pure_ (i := 6) (N := some 43) (v := ?_) (a' := ?_) #[true, true, true, true, true, true, true, true, true, false, false, false, true, false, false, false] rfl rfl (any_of HT_.out (by kernel_rfl)) (fun _ _ _ h => h) (Or.inl ⟨by rfl, ?_⟩) ?_ ?_
                      rotate_left
                      · intro w'
                        go_simp
                        with_reducible rfl
                      rotate_left
                      · simp only [Act.put, List.setIfInBounds_toArray, List.set_cons_zero, List.set_cons_succ, i64_w, i32_w]
                        rfl
                      refine one_ (i := 9) (N := some 46) #[true, true, true, true, true, true, true, true, true, true, false, false, true, false, false, false] rfl rfl (one_of HT_.out (by kernel_rfl)) (by decide) (fun K hK => ?_)
                      refine goes_ Try.func25 (by kernel_rfl) rfl #[.int .i32 t416] (by rfl) rfl rfl (by (try simp only [List.map_toArray, List.map_cons, List.map_nil]); first | done | rfl | (simp only [List.length_drop, List.length_take]; rfl)) ?_
                      with_reducible refine (gossamerref1_Bytes.calls kj5 t416 t421 _ A31.out).mono ?_
                      rintro e w38 ⟨v422, rfl, ho0, hb⟩
                      refine ⟨_, rfl, ?_⟩
                      have n0_ := Aside0.mk (Kd.R_elder' (by (with_reducible repeat (first | apply Kd.R_alloc | apply Kd.R_drewN | apply Kd.R_drew)); exact HO420.out) (Kd.R_base ho0) hb)
                      have n1_ := Aside0.mk (Kd.R_lower (Kd.R_new' ho0 (Kd.R_lt (by (with_reducible repeat (first | apply Kd.R_alloc | apply Kd.R_drewN | apply Kd.R_drew)); exact HO420.out))) (below_size (by repeat (first | (with_reducible first | exact HB.out | apply below_alloc | apply pw_below_drewN | apply below_drew1) | exact HB.out))))
                      have n2_ := Aside0.mk (below_step (by repeat (first | (with_reducible first | exact HB.out | apply below_alloc | apply pw_below_drewN | apply below_drew1) | exact HB.out)) hb)
                      clear HO420
                      clear HB
                      have HO420 := n0_
                      have HO423 := n1_
                      have HB := n2_
                      clear n0_ n1_ n2_
                      (try clear hb)
                      (try clear hb2)
                      (try clear hk)
                      (try clear hi)
                      (try clear ho0)
                      refine hK.out _ _ trivial (fun hHeld => ?_)
                      clear hK K
                      refine norm_ (a' := ?_) ?_ ?_
                      rotate_left
                      · show Act.put _ (some 46) _ = _
                        simp only [Act.put, List.setIfInBounds_toArray, List.set_cons_zero, List.set_cons_succ, i64_w, i32_w]
                        rfl
                      refine pure_ (i := 14) (N := some 13) (v := ?_) (a' := ?_) #[true, true, true, true, true, true, true, true, true, true, false, false, true, false, true, false] rfl rfl (any_of HT_.out (by kernel_rfl)) (fun _ _ _ h => h) (Or.inl ⟨by rfl, ?_⟩) ?_ ?_
                      rotate_left
                      · intro w'
                        go_simp
                        with_reducible rfl
                      rotate_left
                      · simp only [Act.put, List.setIfInBounds_toArray, List.set_cons_zero, List.set_cons_succ, i64_w, i32_w]
                        rfl
                      refine one_ (i := 10) (N := some 47) #[true, true, true, true, true, true, true, true, true, true, true, false, true, false, true, false] rfl rfl (one_of HT_.out (by kernel_rfl)) (by decide) (fun K hK => ?_)
                      have hcv39 := own_string (P := Try.prog) Try.underlying37 Try.underlying5 Try.underlying9 (Kd.own_of_R HO423.out)
                      refine value_ (w1 := ?_) (v := ?_) (by rfl) rfl ?_ ?_
                      rotate_left 2
                      · go_simp
                        constructor
                        · rfl
                        · rfl
                      clear hcv39
                      refine hK.out _ _ trivial (fun hHeld => ?_)
                      clear hK K
                      refine norm_ (a' := ?_) ?_ ?_
                      rotate_left
                      · show Act.put _ (some 47) _ = _
                        simp only [Act.put, List.setIfInBounds_toArray, List.set_cons_zero, List.set_cons_succ, i64_w, i32_w]
                        rfl
                      refine pure_ (i := 11) (N := some 48) (v := ?_) (a' := ?_) #[true, true, true, true, true, true, true, true, true, true, true, true, true, false, true, false] rfl rfl (any_of HT_.out (by kernel_rfl)) (fun _ _ _ h => h) (Or.inl ⟨by rfl, ?_⟩) ?_ ?_
                      rotate_left
                      · intro w'
                        go_simp
                        with_reducible rfl
                      rotate_left
                      · simp only [Act.put, List.setIfInBounds_toArray, List.set_cons_zero, List.set_cons_succ, i64_w, i32_w]
                        rfl
                      refine pure_ (i := 13) (N := some 50) (v := ?_) (a' := ?_) #[true, true, true, true, true, true, true, true, true, true, true, true, true, true, true, false] rfl rfl (any_of HT_.out (by kernel_rfl)) (fun _ _ _ h => h) (Or.inl ⟨by rfl, ?_⟩) ?_ ?_
                      rotate_left
                      · intro w'
                        go_simp
                        with_reducible rfl
                      rotate_left
                      · simp only [Act.put, List.setIfInBounds_toArray, List.set_cons_zero, List.set_cons_succ, i64_w, i32_w]
                        rfl
                      exact norm_ (by simp only [putAll, Act.put, List.setIfInBounds_toArray, List.set_cons_zero, List.set_cons_succ]) (hCont (v422) _ ⟨(by (with_reducible repeat (first | apply Kd.R_alloc | apply Kd.R_drewN | apply Kd.R_drew)); exact Kd.R_mono HO420.out (fun _ hk => hk.2)), (by (with_reducible repeat (first | apply Kd.R_alloc | apply Kd.R_drewN | apply Kd.R_drew)); exact Kd.R_mono HO423.out (fun _ hk => hk.2)), (by repeat (first | (with_reducible first | exact HB.out | apply below_alloc | apply pw_below_drewN | apply below_drew1) | exact HB.out))⟩)
                    · skip
                      refine goes_ Try.func25 (by kernel_rfl) rfl #[.int .i32 t416] (by rfl) rfl rfl (by (try simp only [List.map_toArray, List.map_cons, List.map_nil]); first | done | rfl | (simp only [List.length_drop, List.length_take]; rfl)) ?_
                      with_reducible refine (gossamerref1_Bytes.calls kj5 t416 t421 _ A31.out).mono ?_
                      rintro e w37 ⟨v422, rfl, ho0, hb⟩
                      refine ⟨_, rfl, ?_⟩
                      have n0_ := Aside0.mk (Kd.R_elder' (by (with_reducible repeat (first | apply Kd.R_alloc | apply Kd.R_drewN | apply Kd.R_drew)); exact HO420.out) (Kd.R_base ho0) hb)
                      have n1_ := Aside0.mk (Kd.R_lower (Kd.R_new' ho0 (Kd.R_lt (by (with_reducible repeat (first | apply Kd.R_alloc | apply Kd.R_drewN | apply Kd.R_drew)); exact HO420.out))) (below_size (by repeat (first | (with_reducible first | exact HB.out | apply below_alloc | apply pw_below_drewN | apply below_drew1) | exact HB.out))))
                      have n2_ := Aside0.mk (below_step (by repeat (first | (with_reducible first | exact HB.out | apply below_alloc | apply pw_below_drewN | apply below_drew1) | exact HB.out)) hb)
                      clear HO420
                      clear HB
                      have HO420 := n0_
                      have HO423 := n1_
                      have HB := n2_
                      clear n0_ n1_ n2_
                      (try clear hb)
                      (try clear hb2)
                      (try clear hk)
                      (try clear hi)
                      (try clear ho0)
                      refine hK.out _ _ trivial (fun hHeld => ?_)
                      clear hK K
                      refine norm_ (a' := ?_) ?_ ?_
                      rotate_left
                      · show Act.put _ (some 46) _ = _
                        simp only [Act.put, List.setIfInBounds_toArray, List.set_cons_zero, List.set_cons_succ, i64_w, i32_w]
                        rfl
                      refine two_ (i := 3) (j := 10) (Ni := some 40) (Nj := some 47) #[true, true, true, true, false, true, false, true, true, true, false, false, true, false, false, false] #[true, true, true, false, false, true, false, true, true, true, true, false, true, false, false, false] rfl rfl rfl rfl (two_of HT_.out (by kernel_rfl)) (by decide) (by decide) (fun K hK => ?_) (fun K hK => ?_)
                      · skip
                        have hcv38 := own_string (P := Try.prog) Try.underlying37 Try.underlying5 Try.underlying9 (Kd.own_of_R HO420.out)
                        refine value_ (w1 := ?_) (v := ?_) (by rfl) rfl ?_ ?_
                        rotate_left 2
                        · go_simp
                          constructor
                          · rfl
                          · rfl
                        clear hcv38
                        refine hK.out _ _ trivial (fun hHeld => ?_)
                        clear hK K
                        refine norm_ (a' := ?_) ?_ ?_
                        rotate_left
                        · show Act.put _ (some 40) _ = _
                          simp only [Act.put, List.setIfInBounds_toArray, List.set_cons_zero, List.set_cons_succ, i64_w, i32_w]
                          rfl
                        refine pure_ (i := 4) (N := some 41) (v := ?_) (a' := ?_) #[true, true, true, true, true, true, false, true, true, true, false, false, true, false, false, false] rfl rfl (any_of HT_.out (by kernel_rfl)) (fun _ _ _ h => h) (Or.inl ⟨by rfl, ?_⟩) ?_ ?_
                        rotate_left
                        · intro w'
                          go_simp
                          with_reducible rfl
                        rotate_left
                        · simp only [Act.put, List.setIfInBounds_toArray, List.set_cons_zero, List.set_cons_succ, i64_w, i32_w]
                          rfl
                        refine pure_ (i := 6) (N := some 43) (v := ?_) (a' := ?_) #[true, true, true, true, true, true, true, true, true, true, false, false, true, false, false, false] rfl rfl (any_of HT_.out (by kernel_rfl)) (fun _ _ _ h => h) (Or.inl ⟨by rfl, ?_⟩) ?_ ?_
                        rotate_left
                        · intro w'
                          go_simp
                          with_reducible rfl
                        rotate_left
                        · simp only [Act.put, List.setIfInBounds_toArray, List.set_cons_zero, List.set_cons_succ, i64_w, i32_w]
                          rfl
                        refine pure_ (i := 14) (N := some 13) (v := ?_) (a' := ?_) #[true, true, true, true, true, true, true, true, true, true, false, false, true, false, true, false] rfl rfl (any_of HT_.out (by kernel_rfl)) (fun _ _ _ h => h) (Or.inl ⟨by rfl, ?_⟩) ?_ ?_
                        rotate_left
                        · intro w'
                          go_simp
                          with_reducible rfl
                        rotate_left
                        · simp only [Act.put, List.setIfInBounds_toArray, List.set_cons_zero, List.set_cons_succ, i64_w, i32_w]
                          rfl
                        refine one_ (i := 10) (N := some 47) #[true, true, true, true, true, true, true, true, true, true, true, false, true, false, true, false] rfl rfl (one_of HT_.out (by kernel_rfl)) (by decide) (fun K hK => ?_)
                        have hcv39 := own_string (P := Try.prog) Try.underlying37 Try.underlying5 Try.underlying9 (Kd.own_of_R HO423.out)
                        refine value_ (w1 := ?_) (v := ?_) (by rfl) rfl ?_ ?_
                        rotate_left 2
                        · go_simp
                          constructor
                          · rfl
                          · rfl
                        clear hcv39
                        refine hK.out _ _ trivial (fun hHeld => ?_)
                        clear hK K
                        refine norm_ (a' := ?_) ?_ ?_
                        rotate_left
                        · show Act.put _ (some 47) _ = _
                          simp only [Act.put, List.setIfInBounds_toArray, List.set_cons_zero, List.set_cons_succ, i64_w, i32_w]
                          rfl
                        refine pure_ (i := 11) (N := some 48) (v := ?_) (a' := ?_) #[true, true, true, true, true, true, true, true, true, true, true, true, true, false, true, false] rfl rfl (any_of HT_.out (by kernel_rfl)) (fun _ _ _ h => h) (Or.inl ⟨by rfl, ?_⟩) ?_ ?_
                        rotate_left
                        · intro w'
                          go_simp
                          with_reducible rfl
                        rotate_left
                        · simp only [Act.put, List.setIfInBounds_toArray, List.set_cons_zero, List.set_cons_succ, i64_w, i32_w]
                          rfl
                        refine pure_ (i := 13) (N := some 50) (v := ?_) (a' := ?_) #[true, true, true, true, true, true, true, true, true, true, true, true, true, true, true, false] rfl rfl (any_of HT_.out (by kernel_rfl)) (fun _ _ _ h => h) (Or.inl ⟨by rfl, ?_⟩) ?_ ?_
                        rotate_left
                        · intro w'
                          go_simp
                          with_reducible rfl
                        rotate_left
                        · simp only [Act.put, List.setIfInBounds_toArray, List.set_cons_zero, List.set_cons_succ, i64_w, i32_w]
                          rfl
                        exact norm_ (by simp only [putAll, Act.put, List.setIfInBounds_toArray, List.set_cons_zero, List.set_cons_succ]) (hCont (v422) _ ⟨(by (with_reducible repeat (first | apply Kd.R_alloc | apply Kd.R_drewN | apply Kd.R_drew)); exact Kd.R_mono HO420.out (fun _ hk => hk.2)), (by (with_reducible repeat (first | apply Kd.R_alloc | apply Kd.R_drewN | apply Kd.R_drew)); exact Kd.R_mono HO423.out (fun _ hk => hk.2)), (by repeat (first | (with_reducible first | exact HB.out | apply below_alloc | apply pw_below_drewN | apply below_drew1) | exact HB.out))⟩)
                      · skip
                        have hcv38 := own_string (P := Try.prog) Try.underlying37 Try.underlying5 Try.underlying9 (Kd.own_of_R HO423.out)
                        refine value_ (w1 := ?_) (v := ?_) (by rfl) rfl ?_ ?_
                        rotate_left 2
                        · go_simp
                          constructor
                          · rfl
                          · rfl
                        clear hcv38
                        refine hK.out _ _ trivial (fun hHeld => ?_)
                        clear hK K
                        refine norm_ (a' := ?_) ?_ ?_
                        rotate_left
                        · show Act.put _ (some 47) _ = _
                          simp only [Act.put, List.setIfInBounds_toArray, List.set_cons_zero, List.set_cons_succ, i64_w, i32_w]
                          rfl
                        refine pure_ (i := 11) (N := some 48) (v := ?_) (a' := ?_) #[true, true, true, false, false, true, false, true, true, true, true, true, true, false, false, false] rfl rfl (any_of HT_.out (by kernel_rfl)) (fun _ _ _ h => h) (Or.inl ⟨by rfl, ?_⟩) ?_ ?_
                        rotate_left
                        · intro w'
                          go_simp
                          with_reducible rfl
                        rotate_left
                        · simp only [Act.put, List.setIfInBounds_toArray, List.set_cons_zero, List.set_cons_succ, i64_w, i32_w]
                          rfl
                        refine pure_ (i := 13) (N := some 50) (v := ?_) (a' := ?_) #[true, true, true, false, false, true, false, true, true, true, true, true, true, true, false, false] rfl rfl (any_of HT_.out (by kernel_rfl)) (fun _ _ _ h => h) (Or.inl ⟨by rfl, ?_⟩) ?_ ?_
                        rotate_left
                        · intro w'
                          go_simp
                          with_reducible rfl
                        rotate_left
                        · simp only [Act.put, List.setIfInBounds_toArray, List.set_cons_zero, List.set_cons_succ, i64_w, i32_w]
                          rfl
                        refine one_ (i := 3) (N := some 40) #[true, true, true, true, false, true, false, true, true, true, true, true, true, true, false, false] rfl rfl (one_of HT_.out (by kernel_rfl)) (by decide) (fun K hK => ?_)
                        have hcv39 := own_string (P := Try.prog) Try.underlying37 Try.underlying5 Try.underlying9 (Kd.own_of_R HO420.out)
                        refine value_ (w1 := ?_) (v := ?_) (by rfl) rfl ?_ ?_
                        rotate_left 2
                        · go_simp
                          constructor
                          · rfl
                          · rfl
                        clear hcv39
                        refine hK.out _ _ trivial (fun hHeld => ?_)
                        clear hK K
                        refine norm_ (a' := ?_) ?_ ?_
                        rotate_left
                        · show Act.put _ (some 40) _ = _
                          simp only [Act.put, List.setIfInBounds_toArray, List.set_cons_zero, List.set_cons_succ, i64_w, i32_w]
                          rfl
                        refine pure_ (i := 4) (N := some 41) (v := ?_) (a' := ?_) #[true, true, true, true, true, true, false, true, true, true, true, true, true, true, false, false] rfl rfl (any_of HT_.out (by kernel_rfl)) (fun _ _ _ h => h) (Or.inl ⟨by rfl, ?_⟩) ?_ ?_
                        rotate_left
                        · intro w'
                          go_simp
                          with_reducible rfl
                        rotate_left
                        · simp only [Act.put, List.setIfInBounds_toArray, List.set_cons_zero, List.set_cons_succ, i64_w, i32_w]
                          rfl
                        refine pure_ (i := 6) (N := some 43) (v := ?_) (a' := ?_) #[true, true, true, true, true, true, true, true, true, true, true, true, true, true, false, false] rfl rfl (any_of HT_.out (by kernel_rfl)) (fun _ _ _ h => h) (Or.inl ⟨by rfl, ?_⟩) ?_ ?_
                        rotate_left
                        · intro w'
                          go_simp
                          with_reducible rfl
                        rotate_left
                        · simp only [Act.put, List.setIfInBounds_toArray, List.set_cons_zero, List.set_cons_succ, i64_w, i32_w]
                          rfl
                        refine pure_ (i := 14) (N := some 13) (v := ?_) (a' := ?_) #[true, true, true, true, true, true, true, true, true, true, true, true, true, true, true, false] rfl rfl (any_of HT_.out (by kernel_rfl)) (fun _ _ _ h => h) (Or.inl ⟨by rfl, ?_⟩) ?_ ?_
                        rotate_left
                        · intro w'
                          go_simp
                          with_reducible rfl
                        rotate_left
                        · simp only [Act.put, List.setIfInBounds_toArray, List.set_cons_zero, List.set_cons_succ, i64_w, i32_w]
                          rfl
                        exact norm_ (by simp only [putAll, Act.put, List.setIfInBounds_toArray, List.set_cons_zero, List.set_cons_succ]) (hCont (v422) _ ⟨(by (with_reducible repeat (first | apply Kd.R_alloc | apply Kd.R_drewN | apply Kd.R_drew)); exact Kd.R_mono HO420.out (fun _ hk => hk.2)), (by (with_reducible repeat (first | apply Kd.R_alloc | apply Kd.R_drewN | apply Kd.R_drew)); exact Kd.R_mono HO423.out (fun _ hk => hk.2)), (by repeat (first | (with_reducible first | exact HB.out | apply below_alloc | apply pw_below_drewN | apply below_drew1) | exact HB.out))⟩)
                  rintro v422 w40 ⟨h0_, h1_, h2_⟩
                  have n0_ : Aside0 (Kd.R (Kd.int .u8) 5 w40 w.heap.size (fun k_ => some k_ ≠ (v422 : Value).ownBlock) v419 t418) := ⟨h0_⟩
                  have n1_ : Aside0 (Kd.R (Kd.int .u8) 5 w40 w.heap.size (fun k_ => some k_ ≠ (v419 : Value).ownBlock) v422 t421) := ⟨h1_⟩
                  have n2_ : Aside0 (Below w.heap.size w w40) := ⟨h2_⟩
                  clear HB
                  clear h0_ h1_ h2_
                  have HO420 := n0_
                  have HO423 := n1_
                  have HB := n2_
                  clear n0_ n1_ n2_
                  have hHeld := trivial
                  refine norm_ (a' := ?_) ?_ ?_
                  rotate_left
                  · simp only [putAll, Act.put, List.setIfInBounds_toArray, List.set_cons_zero, List.set_cons_succ]
                    rfl
                  refine pure_ (i := 15) (N := some 14) (v := ?_) (a' := ?_) #[true, true, true, true, true, true, true, true, true, true, true, true, true, true, true, true] rfl rfl (any_of HT_.out (by kernel_rfl)) (fun _ _ _ h => h) (Or.inl ⟨by rfl, ?_⟩) ?_ ?_
                  rotate_left
                  · intro w'
                    go_simp
                    with_reducible rfl
                  rotate_left
                  · simp only [Act.put, List.setIfInBounds_toArray, List.set_cons_zero, List.set_cons_succ, i64_w, i32_w]
                    rfl
                  refine done_ (done_of HT_.out (by kernel_rfl)) ?_
                  go_upto_region 7 with (fail)
                  go_cut [15] (fun v15 wc => ∃ (kq : Nat) (x15_33 : Bool), v15 = .bool x15_33 ∧ Aside0 (gossamerlaw2_OrderApart.j1 kq t415 t416 ((a0 ++ (strOfNums t418)) ++ a3) ((a0 ++ (strOfNums t421)) ++ a4) x15_33 = some r) ∧ Aside0 (kq ≤ kj5) ∧ Aside0 (Below w.heap.size w wc))
                  case first =>
                    have H := HC34.out
                    clear HC34
                    by_cases c41 : t415 > 65535
                    · rw [if_pos c41] at H
                      have c41b0 : decide (65535 < t415) = true := decide_eq_true c41
                      clear c41
                      (first | rw [c41b0] | (simp only [i64_w, i32_w]; rw [c41b0]) | skip)
                      by_cases c42 : t416 ≥ 57344
                      · rw [if_pos c42] at H
                        have c42b0 : decide (57344 ≤ t416) = true := decide_eq_true c42
                        clear c42
                        by_cases c43 : t416 ≤ 65535
                        · rw [if_pos c43] at H
                          have c43b0 : decide (t416 ≤ 65535) = true := decide_eq_true c43
                          clear c43
                          have H' := Aside0.mk H
                          clear H
                          go_wp2
                          go_meet
                          case rel => exact ⟨_, (true), (by first | rfl | (simp; done) | (simp [*]; done)), H', ⟨by have := HJ5.out; first | omega | exact Nat.le_refl _⟩, ⟨by repeat (first | (with_reducible first | exact HB.out | apply below_alloc | apply pw_below_drewN | apply below_drew1) | exact HB.out)⟩⟩
                        · rw [if_neg c43] at H
                          have c43b0 : decide (t416 ≤ 65535) = false := decide_eq_false c43
                          clear c43
                          by_cases c44 : t416 > 65535
                          · rw [if_pos c44] at H
                            have c44b0 : decide (65535 < t416) = true := decide_eq_true c44
                            clear c44
                            by_cases c45 : t415 ≥ 57344
                            · rw [if_pos c45] at H
                              have c45b0 : decide (57344 ≤ t415) = true := decide_eq_true c45
                              clear c45
                              have H' := Aside0.mk H
                              clear H
                              go_wp2
                              go_meet
                              case rel => exact ⟨_, (decide (t415 ≤ 65535)), (by first | rfl | (simp; done) | (simp [*]; done)), H', ⟨by have := HJ5.out; first | omega | exact Nat.le_refl _⟩, ⟨by repeat (first | (with_reducible first | exact HB.out | apply below_alloc | apply pw_below_drewN | apply below_drew1) | exact HB.out)⟩⟩
                            · rw [if_neg c45] at H
                              have c45b0 : decide (57344 ≤ t415) = false := decide_eq_false c45
                              clear c45
                              have H' := Aside0.mk H
                              clear H
                              go_wp2
                              go_meet
                              case rel => exact ⟨_, (false), (by first | rfl | (simp; done) | (simp [*]; done)), H', ⟨by have := HJ5.out; first | omega | exact Nat.le_refl _⟩, ⟨by repeat (first | (with_reducible first | exact HB.out | apply below_alloc | apply pw_below_drewN | apply below_drew1) | exact HB.out)⟩⟩
                          · rw [if_neg c44] at H
                            have c44b0 : decide (65535 < t416) = false := decide_eq_false c44
                            clear c44
                            have H' := Aside0.mk H
                            clear H
                            go_wp2
                            go_meet
                            case rel => exact ⟨_, (false), (by first | rfl | (simp; done) | (simp [*]; done)), H', ⟨by have := HJ5.out; first | omega | exact Nat.le_refl _⟩, ⟨by repeat (first | (with_reducible first | exact HB.out | apply below_alloc | apply pw_below_drewN | apply below_drew1) | exact HB.out)⟩⟩
                      · rw [if_neg c42] at H
                        have c42b0 : decide (57344 ≤ t416) = false := decide_eq_false c42
                        clear c42
                        by_cases c46 : t416 > 65535
                        · rw [if_pos c46] at H
                          have c46b0 : decide (65535 < t416) = true := decide_eq_true c46
                          clear c46
                          by_cases c47 : t415 ≥ 57344
                          · rw [if_pos c47] at H
                            have c47b0 : decide (57344 ≤ t415) = true := decide_eq_true c47
                            clear c47
                            have H' := Aside0.mk H
                            clear H
                            go_wp2
                            go_meet
                            case rel => exact ⟨_, (decide (t415 ≤ 65535)), (by first | rfl | (simp; done) | (simp [*]; done)), H', ⟨by have := HJ5.out; first | omega | exact Nat.le_refl _⟩, ⟨by repeat (first | (with_reducible first | exact HB.out | apply below_alloc | apply pw_below_drewN | apply below_drew1) | exact HB.out)⟩⟩
                          · rw [if_neg c47] at H
                            have c47b0 : decide (57344 ≤ t415) = false := decide_eq_false c47
                            clear c47
                            have H' := Aside0.mk H
                            clear H
                            go_wp2
                            go_meet
                            case rel => exact ⟨_, (false), (by first | rfl | (simp; done) | (simp [*]; done)), H', ⟨by have := HJ5.out; first | omega | exact Nat.le_refl _⟩, ⟨by repeat (first | (with_reducible first | exact HB.out | apply below_alloc | apply pw_below_drewN | apply below_drew1) | exact HB.out)⟩⟩
                        · rw [if_neg c46] at H
                          have c46b0 : decide (65535 < t416) = false := decide_eq_false c46
                          clear c46
                          have H' := Aside0.mk H
                          clear H
                          go_wp2
                          go_meet
                          case rel => exact ⟨_, (false), (by first | rfl | (simp; done) | (simp [*]; done)), H', ⟨by have := HJ5.out; first | omega | exact Nat.le_refl _⟩, ⟨by repeat (first | (with_reducible first | exact HB.out | apply below_alloc | apply pw_below_drewN | apply below_drew1) | exact HB.out)⟩⟩
                    · rw [if_neg c41] at H
                      have c41b0 : decide (65535 < t415) = false := decide_eq_false c41
                      clear c41
                      (first | rw [c41b0] | (simp only [i64_w, i32_w]; rw [c41b0]) | skip)
                      by_cases c48 : t416 > 65535
                      · rw [if_pos c48] at H
                        have c48b0 : decide (65535 < t416) = true := decide_eq_true c48
                        clear c48
                        by_cases c49 : t415 ≥ 57344
                        · rw [if_pos c49] at H
                          have c49b0 : decide (57344 ≤ t415) = true := decide_eq_true c49
                          clear c49
                          have H' := Aside0.mk H
                          clear H
                          go_wp2
                          go_meet
                          case rel => exact ⟨_, (decide (t415 ≤ 65535)), (by first | rfl | (simp; done) | (simp [*]; done)), H', ⟨by have := HJ5.out; first | omega | exact Nat.le_refl _⟩, ⟨by repeat (first | (with_reducible first | exact HB.out | apply below_alloc | apply pw_below_drewN | apply below_drew1) | exact HB.out)⟩⟩
                        · rw [if_neg c49] at H
                          have c49b0 : decide (57344 ≤ t415) = false := decide_eq_false c49
                          clear c49
                          have H' := Aside0.mk H
                          clear H
                          go_wp2
                          go_meet
                          case rel => exact ⟨_, (false), (by first | rfl | (simp; done) | (simp [*]; done)), H', ⟨by have := HJ5.out; first | omega | exact Nat.le_refl _⟩, ⟨by repeat (first | (with_reducible first | exact HB.out | apply below_alloc | apply pw_below_drewN | apply below_drew1) | exact HB.out)⟩⟩
                      · rw [if_neg c48] at H
                        have c48b0 : decide (65535 < t416) = false := decide_eq_false c48
                        clear c48
                        have H' := Aside0.mk H
                        clear H
                        go_wp2
                        go_meet
                        case rel => exact ⟨_, (false), (by first | rfl | (simp; done) | (simp [*]; done)), H', ⟨by have := HJ5.out; first | omega | exact Nat.le_refl _⟩, ⟨by repeat (first | (with_reducible first | exact HB.out | apply below_alloc | apply pw_below_drewN | apply below_drew1) | exact HB.out)⟩⟩
                  case rest =>
                    clear HC34
                    try clear c1
                    try clear c2
                    try clear p2
                    try clear c3
                    try clear hcv3
                    try clear c4
                    try clear c7
                    try clear c8
                    try clear c10
                    try clear c11
                    try clear c12
                    try clear c12b0
                    try clear c12b1
                    try clear c12b2
                    try clear c20
                    try clear c24
                    try clear c25
                    try clear c25b0
                    try clear c25b1
                    try clear c29
                    try clear c29b0
                    try clear c29b1
                    try clear c29b2
                    try clear c30
                    try clear c30b0
                    try clear c30b1
                    try clear c30b2
                    try clear c32
                    try clear c32b0
                    try clear c32b1
                    try clear c32b2
                    try clear c33
                    try clear c33b0
                    try clear c33b1
                    try clear c33b2
                    try clear hcv37
                    try clear hcv38
                    try clear hcv39
                    try clear c41
                    try clear c41b0
                    try clear c42
                    try clear c42b0
                    try clear c43
                    try clear c43b0
                    try clear c44
                    try clear c44b0
                    try clear c45
                    try clear c45b0
                    try clear c46
                    try clear c46b0
                    try clear c47
                    try clear c47b0
                    try clear c48
                    try clear c48b0
                    try clear c49
                    try clear c49b0
                    try clear p2
                    obtain ⟨kq, x15_33, rfl, HA, HJ33, HB⟩ := hcut
                    cases kq with
                    | zero => exact absurd HA.out (by simp [gossamerlaw2_OrderApart.j1])
                    | succ kj33 =>
                      have H := HA.out
                      clear HA
                      simp only [gossamerlaw2_OrderApart.j1] at H
                      have HC50 := Aside0.mk H
                      clear H
                      go_upto_if 75 with (fail)
                      go_cut [16] (fun v16 wc => ∃ (kq : Nat) (x16_49 : Int), v16 = .int .i64 x16_49 ∧ Aside0 (gossamerlaw2_OrderApart.j2 kq ((a0 ++ (strOfNums t418)) ++ a3) ((a0 ++ (strOfNums t421)) ++ a4) x15_33 x16_49 = some r) ∧ Aside0 (kq ≤ kj33) ∧ Aside0 (Below w.heap.size w wc))
                      case first =>
                        have H := HC50.out
                        clear HC50
                        by_cases c51 : t415 > t416
                        · rw [if_pos c51] at H
                          have c51b0 : decide (t416 < t415) = true := decide_eq_true c51
                          clear c51
                          (first | rw [c51b0] | (simp only [i64_w, i32_w]; rw [c51b0]) | skip)
                          have H' := Aside0.mk H
                          clear H
                          go_wp2
                          go_meet
                          case rel => exact ⟨_, (1), (by first | rfl | (simp; done) | (simp [*]; done)), H', ⟨by have := HJ5.out; have := HJ33.out; first | omega | exact Nat.le_refl _⟩, ⟨by repeat (first | (with_reducible first | exact HB.out | apply below_alloc | apply pw_below_drewN | apply below_drew1) | exact HB.out)⟩⟩
                        · rw [if_neg c51] at H
                          have c51b0 : decide (t416 < t415) = false := decide_eq_false c51
                          clear c51
                          (first | rw [c51b0] | (simp only [i64_w, i32_w]; rw [c51b0]) | skip)
                          have H' := Aside0.mk H
                          clear H
                          go_wp2
                          go_meet
                          case rel => exact ⟨_, ((-1)), (by first | rfl | (simp; done) | (simp [*]; done)), H', ⟨by have := HJ5.out; have := HJ33.out; first | omega | exact Nat.le_refl _⟩, ⟨by repeat (first | (with_reducible first | exact HB.out | apply below_alloc | apply pw_below_drewN | apply below_drew1) | exact HB.out)⟩⟩
                      case rest =>
                        clear HC50
                        try clear c1
                        try clear c2
                        try clear p2
                        try clear c3
                        try clear hcv3
                        try clear c4
                        try clear c5
                        try clear c7
                        try clear c8
                        try clear c10
                        try clear c11
                        try clear c12
                        try clear c12b0
                        try clear c12b1
                        try clear c12b2
                        try clear c20
                        try clear c24
                        try clear c25
                        try clear c25b0
                        try clear c25b1
                        try clear c29
                        try clear c29b0
                        try clear c29b1
                        try clear c29b2
                        try clear c30
                        try clear c30b0
                        try clear c30b1
                        try clear c30b2
                        try clear c32
                        try clear c32b0
                        try clear c32b1
                        try clear c32b2
                        try clear c33
                        try clear c33b0
                        try clear c33b1
                        try clear c33b2
                        try clear hcv37
                        try clear hcv38
                        try clear hcv39
                        try clear c41
                        try clear c41b0
                        try clear c42
                        try clear c42b0
                        try clear c43
                        try clear c43b0
                        try clear c44
                        try clear c44b0
                        try clear c45
                        try clear c45b0
                        try clear c46
                        try clear c46b0
                        try clear c47
                        try clear c47b0
                        try clear c48
                        try clear c48b0
                        try clear c49
                        try clear c49b0
                        try clear c51
                        try clear c51b0
                        try clear p2
                        obtain ⟨kq, x16_49, rfl, HA, HJ49, HB⟩ := hcut
                        cases kq with
                        | zero => exact absurd HA.out (by simp [gossamerlaw2_OrderApart.j2])
                        | succ kj49 =>
                          have H := HA.out
                          clear HA
                          simp only [gossamerlaw2_OrderApart.j2] at H
                          replace H := Option.bind_eq_some_iff.mp H
                          obtain ⟨t424, A520, H⟩ := H
                          replace H : (if t424 = x16_49 then (if x15_33 = true then ((order_Compare.f kj49 ((a0 ++ (strOfNums t418)) ++ a3) ((a0 ++ (strOfNums t421)) ++ a4)).bind fun t425 => (if t425 = (wrap64 (-x16_49)) then ((gossamerlaw2_awake.f kj49).bind fun t426 => (some t426)) else (some false))) else ((order_Compare.f kj49 ((a0 ++ (strOfNums t418)) ++ a3) ((a0 ++ (strOfNums t421)) ++ a4)).bind fun t427 => (if t427 = x16_49 then ((gossamerlaw2_awake.f kj49).bind fun t428 => (some t428)) else (some false)))) else (some false)) = some r := H
                          have A52 := Aside0.mk A520
                          clear A520
                          by_cases c53 : t424 = x16_49
                          · rw [if_pos c53] at H
                            have c53b0 : (t424 == x16_49) = true := beq_iff_eq.mpr c53
                            have c53b1 : (t424 != x16_49) = false := bne_eq_false_iff_eq.mpr c53
                            clear c53
                            by_cases c54 : x15_33 = true
                            · subst c54
                              have H1 : ((order_Compare.f kj49 ((a0 ++ (strOfNums t418)) ++ a3) ((a0 ++ (strOfNums t421)) ++ a4)).bind fun t425 => (if t425 = (wrap64 (-x16_49)) then ((gossamerlaw2_awake.f kj49).bind fun t426 => (some t426)) else (some false))) = some r := by rw [if_pos rfl] at H; exact H
                              clear H
                              have H := H1
                              clear H1
                              replace H := Option.bind_eq_some_iff.mp H
                              obtain ⟨t425, A550, H⟩ := H
                              replace H : (if t425 = (wrap64 (-x16_49)) then ((gossamerlaw2_awake.f kj49).bind fun t426 => (some t426)) else (some false)) = some r := H
                              have A55 := Aside0.mk A550
                              clear A550
                              by_cases c56 : t425 = (wrap64 (-x16_49))
                              · rw [if_pos c56] at H
                                have c56b0 : (t425 == (wrap64 (-x16_49))) = true := beq_iff_eq.mpr c56
                                have c56b1 : (t425 != (wrap64 (-x16_49))) = false := bne_eq_false_iff_eq.mpr c56
                                clear c56
                                replace H := Option.bind_eq_some_iff.mp H
                                obtain ⟨t426, A570, H⟩ := H
                                replace H : (some t426) = some r := H
                                have A57 := Aside0.mk A570
                                clear A570
                                obtain rfl := Option.some.inj H
                                go_wp2_with (first | ((with_reducible refine gate_callee (f := 17) rfl ?_); refine goesL_ (some 78) rfl rfl Try.func17 (by kernel_rfl) rfl #[.string ((a0 ++ (strOfNums t418)) ++ a3), .string ((a0 ++ (strOfNums t421)) ++ a4)] rfl (by (try simp only [List.map_toArray, List.map_cons, List.map_nil]); first | done | rfl | (simp only [List.length_drop, List.length_take]; rfl)) ?_; (with_reducible refine (order_Points.calls kj49 ((a0 ++ (strOfNums t418)) ++ a3) ((a0 ++ (strOfNums t421)) ++ a4) t424 _ A52.out).mono ?_); rintro e w58 ⟨rfl, hb⟩; refine ⟨_, rfl, ?_⟩; have n0_ := Aside0.mk (below_step (by repeat (first | (with_reducible first | exact HB.out | apply below_alloc | apply pw_below_drewN | apply below_drew1) | exact HB.out)) hb); clear HB; have HB := n0_; clear n0_; (try clear hb); (try clear hb2); (try clear hk); (try clear hi)) | ((with_reducible refine gate_callee (f := 15) rfl ?_); refine goesL_ (some 86) rfl rfl Try.func15 (by kernel_rfl) rfl #[.string ((a0 ++ (strOfNums t418)) ++ a3), .string ((a0 ++ (strOfNums t421)) ++ a4)] rfl (by (try simp only [List.map_toArray, List.map_cons, List.map_nil]); first | done | rfl | (simp only [List.length_drop, List.length_take]; rfl)) ?_; (with_reducible refine (order_Compare.calls kj49 ((a0 ++ (strOfNums t418)) ++ a3) ((a0 ++ (strOfNums t421)) ++ a4) t425 _ A55.out).mono ?_); rintro e w59 ⟨rfl, hb⟩; refine ⟨_, rfl, ?_⟩; have n0_ := Aside0.mk (below_step (by repeat (first | (with_reducible first | exact HB.out | apply below_alloc | apply pw_below_drewN | apply below_drew1) | exact HB.out)) hb); clear HB; have HB := n0_; clear n0_; (try clear hb); (try clear hb2); (try clear hk); (try clear hi)) | (go_at_call 11; (with_reducible refine (gossamerlaw2_awake.calls kj49  t426 _ A57.out).mono ?_); rintro e w60 ⟨rfl, hb⟩; have n0_ := Aside0.mk (below_step (by repeat (first | (with_reducible first | exact HB.out | apply below_alloc | apply pw_below_drewN | apply below_drew1) | exact HB.out)) hb); clear HB; have HB := n0_; clear n0_; (try clear hb); (try clear hb2); (try clear hk); (try clear hi)))
                                go_ret
                                exact ⟨by first | rfl | (simp [errW_none, errW_some] <;> rfl) | (simp [*, errW_none, errW_some] <;> rfl), by repeat (first | (with_reducible first | exact HB.out | apply below_alloc | apply pw_below_drewN | apply below_drew1) | exact HB.out)⟩
                              · rw [if_neg c56] at H
                                have c56b0 : (t425 == (wrap64 (-x16_49))) = false := beq_eq_false_iff_ne.mpr c56
                                have c56b1 : (t425 != (wrap64 (-x16_49))) = true := bne_iff_ne.mpr c56
                                obtain rfl := Option.some.inj H
                                go_wp2_with (first | ((with_reducible refine gate_callee (f := 17) rfl ?_); refine goesL_ (some 78) rfl rfl Try.func17 (by kernel_rfl) rfl #[.string ((a0 ++ (strOfNums t418)) ++ a3), .string ((a0 ++ (strOfNums t421)) ++ a4)] rfl (by (try simp only [List.map_toArray, List.map_cons, List.map_nil]); first | done | rfl | (simp only [List.length_drop, List.length_take]; rfl)) ?_; (with_reducible refine (order_Points.calls kj49 ((a0 ++ (strOfNums t418)) ++ a3) ((a0 ++ (strOfNums t421)) ++ a4) t424 _ A52.out).mono ?_); rintro e w61 ⟨rfl, hb⟩; refine ⟨_, rfl, ?_⟩; have n0_ := Aside0.mk (below_step (by repeat (first | (with_reducible first | exact HB.out | apply below_alloc | apply pw_below_drewN | apply below_drew1) | exact HB.out)) hb); clear HB; have HB := n0_; clear n0_; (try clear hb); (try clear hb2); (try clear hk); (try clear hi)) | ((with_reducible refine gate_callee (f := 15) rfl ?_); refine goesL_ (some 86) rfl rfl Try.func15 (by kernel_rfl) rfl #[.string ((a0 ++ (strOfNums t418)) ++ a3), .string ((a0 ++ (strOfNums t421)) ++ a4)] rfl (by (try simp only [List.map_toArray, List.map_cons, List.map_nil]); first | done | rfl | (simp only [List.length_drop, List.length_take]; rfl)) ?_; (with_reducible refine (order_Compare.calls kj49 ((a0 ++ (strOfNums t418)) ++ a3) ((a0 ++ (strOfNums t421)) ++ a4) t425 _ A55.out).mono ?_); rintro e w62 ⟨rfl, hb⟩; refine ⟨_, rfl, ?_⟩; have n0_ := Aside0.mk (below_step (by repeat (first | (with_reducible first | exact HB.out | apply below_alloc | apply pw_below_drewN | apply below_drew1) | exact HB.out)) hb); clear HB; have HB := n0_; clear n0_; (try clear hb); (try clear hb2); (try clear hk); (try clear hi)))
                                go_ret
                                exact ⟨by first | rfl | (simp [errW_none, errW_some] <;> rfl) | (simp [*, errW_none, errW_some] <;> rfl), by repeat (first | (with_reducible first | exact HB.out | apply below_alloc | apply pw_below_drewN | apply below_drew1) | exact HB.out)⟩
                            · replace c54 := Bool.eq_false_iff.mpr c54
                              subst c54
                              have H1 : ((order_Compare.f kj49 ((a0 ++ (strOfNums t418)) ++ a3) ((a0 ++ (strOfNums t421)) ++ a4)).bind fun t427 => (if t427 = x16_49 then ((gossamerlaw2_awake.f kj49).bind fun t428 => (some t428)) else (some false))) = some r := by rw [if_neg (show ¬ (false = true) by decide)] at H; exact H
                              clear H
                              have H := H1
                              clear H1
                              replace H := Option.bind_eq_some_iff.mp H
                              obtain ⟨t427, A630, H⟩ := H
                              replace H : (if t427 = x16_49 then ((gossamerlaw2_awake.f kj49).bind fun t428 => (some t428)) else (some false)) = some r := H
                              have A63 := Aside0.mk A630
                              clear A630
                              by_cases c64 : t427 = x16_49
                              · rw [if_pos c64] at H
                                have c64b0 : (t427 == x16_49) = true := beq_iff_eq.mpr c64
                                have c64b1 : (t427 != x16_49) = false := bne_eq_false_iff_eq.mpr c64
                                clear c64
                                replace H := Option.bind_eq_some_iff.mp H
                                obtain ⟨t428, A650, H⟩ := H
                                replace H : (some t428) = some r := H
                                have A65 := Aside0.mk A650
                                clear A650
                                obtain rfl := Option.some.inj H
                                go_wp2_with (first | ((with_reducible refine gate_callee (f := 17) rfl ?_); refine goesL_ (some 78) rfl rfl Try.func17 (by kernel_rfl) rfl #[.string ((a0 ++ (strOfNums t418)) ++ a3), .string ((a0 ++ (strOfNums t421)) ++ a4)] rfl (by (try simp only [List.map_toArray, List.map_cons, List.map_nil]); first | done | rfl | (simp only [List.length_drop, List.length_take]; rfl)) ?_; (with_reducible refine (order_Points.calls kj49 ((a0 ++ (strOfNums t418)) ++ a3) ((a0 ++ (strOfNums t421)) ++ a4) t424 _ A52.out).mono ?_); rintro e w66 ⟨rfl, hb⟩; refine ⟨_, rfl, ?_⟩; have n0_ := Aside0.mk (below_step (by repeat (first | (with_reducible first | exact HB.out | apply below_alloc | apply pw_below_drewN | apply below_drew1) | exact HB.out)) hb); clear HB; have HB := n0_; clear n0_; (try clear hb); (try clear hb2); (try clear hk); (try clear hi)) | ((with_reducible refine gate_callee (f := 15) rfl ?_); refine goesL_ (some 86) rfl rfl Try.func15 (by kernel_rfl) rfl #[.string ((a0 ++ (strOfNums t418)) ++ a3), .string ((a0 ++ (strOfNums t421)) ++ a4)] rfl (by (try simp only [List.map_toArray, List.map_cons, List.map_nil]); first | done | rfl | (simp only [List.length_drop, List.length_take]; rfl)) ?_; (with_reducible refine (order_Compare.calls kj49 ((a0 ++ (strOfNums t418)) ++ a3) ((a0 ++ (strOfNums t421)) ++ a4) t427 _ A63.out).mono ?_); rintro e w67 ⟨rfl, hb⟩; refine ⟨_, rfl, ?_⟩; have n0_ := Aside0.mk (below_step (by repeat (first | (with_reducible first | exact HB.out | apply below_alloc | apply pw_below_drewN | apply below_drew1) | exact HB.out)) hb); clear HB; have HB := n0_; clear n0_; (try clear hb); (try clear hb2); (try clear hk); (try clear hi)) | (go_at_call 11; (with_reducible refine (gossamerlaw2_awake.calls kj49  t428 _ A65.out).mono ?_); rintro e w68 ⟨rfl, hb⟩; have n0_ := Aside0.mk (below_step (by repeat (first | (with_reducible first | exact HB.out | apply below_alloc | apply pw_below_drewN | apply below_drew1) | exact HB.out)) hb); clear HB; have HB := n0_; clear n0_; (try clear hb); (try clear hb2); (try clear hk); (try clear hi)))
                                go_ret
                                exact ⟨by first | rfl | (simp [errW_none, errW_some] <;> rfl) | (simp [*, errW_none, errW_some] <;> rfl), by repeat (first | (with_reducible first | exact HB.out | apply below_alloc | apply pw_below_drewN | apply below_drew1) | exact HB.out)⟩
                              · rw [if_neg c64] at H
                                have c64b0 : (t427 == x16_49) = false := beq_eq_false_iff_ne.mpr c64
                                have c64b1 : (t427 != x16_49) = true := bne_iff_ne.mpr c64
                                obtain rfl := Option.some.inj H
                                go_wp2_with (first | ((with_reducible refine gate_callee (f := 17) rfl ?_); refine goesL_ (some 78) rfl rfl Try.func17 (by kernel_rfl) rfl #[.string ((a0 ++ (strOfNums t418)) ++ a3), .string ((a0 ++ (strOfNums t421)) ++ a4)] rfl (by (try simp only [List.map_toArray, List.map_cons, List.map_nil]); first | done | rfl | (simp only [List.length_drop, List.length_take]; rfl)) ?_; (with_reducible refine (order_Points.calls kj49 ((a0 ++ (strOfNums t418)) ++ a3) ((a0 ++ (strOfNums t421)) ++ a4) t424 _ A52.out).mono ?_); rintro e w69 ⟨rfl, hb⟩; refine ⟨_, rfl, ?_⟩; have n0_ := Aside0.mk (below_step (by repeat (first | (with_reducible first | exact HB.out | apply below_alloc | apply pw_below_drewN | apply below_drew1) | exact HB.out)) hb); clear HB; have HB := n0_; clear n0_; (try clear hb); (try clear hb2); (try clear hk); (try clear hi)) | ((with_reducible refine gate_callee (f := 15) rfl ?_); refine goesL_ (some 86) rfl rfl Try.func15 (by kernel_rfl) rfl #[.string ((a0 ++ (strOfNums t418)) ++ a3), .string ((a0 ++ (strOfNums t421)) ++ a4)] rfl (by (try simp only [List.map_toArray, List.map_cons, List.map_nil]); first | done | rfl | (simp only [List.length_drop, List.length_take]; rfl)) ?_; (with_reducible refine (order_Compare.calls kj49 ((a0 ++ (strOfNums t418)) ++ a3) ((a0 ++ (strOfNums t421)) ++ a4) t427 _ A63.out).mono ?_); rintro e w70 ⟨rfl, hb⟩; refine ⟨_, rfl, ?_⟩; have n0_ := Aside0.mk (below_step (by repeat (first | (with_reducible first | exact HB.out | apply below_alloc | apply pw_below_drewN | apply below_drew1) | exact HB.out)) hb); clear HB; have HB := n0_; clear n0_; (try clear hb); (try clear hb2); (try clear hk); (try clear hi)))
                                go_ret
                                exact ⟨by first | rfl | (simp [errW_none, errW_some] <;> rfl) | (simp [*, errW_none, errW_some] <;> rfl), by repeat (first | (with_reducible first | exact HB.out | apply below_alloc | apply pw_below_drewN | apply below_drew1) | exact HB.out)⟩
                          · rw [if_neg c53] at H
                            have c53b0 : (t424 == x16_49) = false := beq_eq_false_iff_ne.mpr c53
                            have c53b1 : (t424 != x16_49) = true := bne_iff_ne.mpr c53
                            obtain rfl := Option.some.inj H
                            go_wp2_with (first | ((with_reducible refine gate_callee (f := 17) rfl ?_); refine goesL_ (some 78) rfl rfl Try.func17 (by kernel_rfl) rfl #[.string ((a0 ++ (strOfNums t418)) ++ a3), .string ((a0 ++ (strOfNums t421)) ++ a4)] rfl (by (try simp only [List.map_toArray, List.map_cons, List.map_nil]); first | done | rfl | (simp only [List.length_drop, List.length_take]; rfl)) ?_; (with_reducible refine (order_Points.calls kj49 ((a0 ++ (strOfNums t418)) ++ a3) ((a0 ++ (strOfNums t421)) ++ a4) t424 _ A52.out).mono ?_); rintro e w71 ⟨rfl, hb⟩; refine ⟨_, rfl, ?_⟩; have n0_ := Aside0.mk (below_step (by repeat (first | (with_reducible first | exact HB.out | apply below_alloc | apply pw_below_drewN | apply below_drew1) | exact HB.out)) hb); clear HB; have HB := n0_; clear n0_; (try clear hb); (try clear hb2); (try clear hk); (try clear hi)))
                            go_ret
                            exact ⟨by first | rfl | (simp [errW_none, errW_some] <;> rfl) | (simp [*, errW_none, errW_some] <;> rfl), by repeat (first | (with_reducible first | exact HB.out | apply below_alloc | apply pw_below_drewN | apply below_drew1) | exact HB.out)⟩
                · rw [if_neg c33] at H
                  exact absurd H (by simp)
              · rw [if_neg c32] at H
                exact absurd H (by simp)
            · rw [if_neg c30] at H
              exact absurd H (by simp)
          · rw [if_neg c29] at H
            exact absurd H (by simp)

/-- THE ONE PURE STATEMENT of gossamerlaw2_OrderApart: yours. -/
def gossamerlaw2_OrderApart.Pure : Prop := ∀ (a0 : ByteArray) (a1 : Int) (a2 : Int) (a3 : ByteArray) (a4 : ByteArray), a0.size ≤ 140737488351232 → (Lit.int .i64 a1).wf = true → (Lit.int .i64 a2).wf = true → a3.size ≤ 140737488351232 → a4.size ≤ 140737488351232 → ∃ k, gossamerlaw2_OrderApart.f k a0 a1 a2 a3 a4 = some true
theorem gossamerlaw2_OrderApart.walk (P : gossamerlaw2_OrderApart.Pure) (a0 : ByteArray) (a1 : Int) (a2 : Int) (a3 : ByteArray) (a4 : ByteArray) (w : World) (w0 : a0.size ≤ 140737488351232) (w1 : (Lit.int .i64 a1).wf = true) (w2 : (Lit.int .i64 a2).wf = true) (w3 : a3.size ≤ 140737488351232) (w4 : a4.size ≤ 140737488351232) :
    Calls Try.prog 7 #[.string a0, .int .i64 a1, .int .i64 a2, .string a3, .string a4] w fun e w' => e = .returned (.bool true) ∧ Below w.heap.size w w' := by
  obtain ⟨k, h⟩ := P a0 a1 a2 a3 a4 w0 w1 w2 w3 w4
  refine (gossamerlaw2_OrderApart.calls k a0 a1 a2 a3 a4 true w h).mono ?_
  rintro e w' ⟨rfl, hd⟩
  exact ⟨rfl, hd⟩

end Go.Proofs.Ytgabddjdgcembaa.POrd
