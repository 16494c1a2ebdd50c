/- The orders of texts in plain numbers and lists: which one is less by its units, and by its code points. No condition beyond those named in each theorem. -/
import Derived.Test.YtgabddjdgcembaaOrdM
import Derived.Test.YtgabddjdgcembaaOrdL
import Derived.Test.YtgabddjdgcembaaPOrdx16
namespace Go.Proofs.Ytgabddjdgcembaa.LinkOrd
open Go Go.RowKit Go.Proofs.Ytgabddjdgcembaa Go.Proofs.Ytgabddjdgcembaa.POrd Go.Proofs.YtgabddjdgcembaaW.PrintWords Go.Proofs.YtgabddjdgcembaaW.PrintLast Go.Proofs.YtgabddjdgcembaaW.PrintMore Go.Proofs.Ytgabddjdgcembaa.Utf Go.Lib
set_option linter.unusedVariables false
set_option linter.unusedSimpArgs false
set_option maxRecDepth 100000
theorem tot3 (a b c : ByteArray) : totL [a, b, c] = a.size + b.size + c.size + 3 := by simp [totL]; omega
theorem cmpT_neg (a b : ByteArray) : cmpT b a = -cmpT a b := lexP_neg _ _
theorem ptsT_neg (a b : ByteArray) : ptsT b a = -ptsT a b := lexP_neg _ _
theorem map_wt_inj : ∀ (xs ys : List Int), (∀ r ∈ xs, Scal r) → (∀ r ∈ ys, Scal r) → xs.map wt = ys.map wt → xs = ys
  | [], [], _, _, _ => rfl
  | [], _ :: _, _, _, h => by simp at h
  | _ :: _, [], _, _, h => by simp at h
  | x :: xs, y :: ys, hx, hy, h => by
    simp only [List.map_cons, List.cons.injEq] at h
    rw [wt_inj (hx x (List.mem_cons_self ..)) (hy y (List.mem_cons_self ..)) h.1, map_wt_inj xs ys (fun r hr => hx r (List.mem_cons_of_mem _ hr)) (fun r hr => hy r (List.mem_cons_of_mem _ hr)) h.2]
theorem zero_same (a b : ByteArray) : cmpT a b = 0 ↔ ptsT a b = 0 := by
  constructor
  · intro h
    rw [cmpT_w] at h
    have := map_wt_inj _ _ (decode_scals (bs_byt a)) (decode_scals (bs_byt b)) (lexP_zero _ _ h)
    unfold ptsT
    rw [this]; exact lexP_self _
  · intro h
    have := lexP_zero _ _ h
    unfold cmpT
    rw [this]; exact lexP_self _
theorem OrderSigns : gossamerlaw2_OrderSigns.Pure := by
  intro a b c _ _ _
  refine ⟨5000, ?_⟩
  obtain ⟨r, hr, hl⟩ := long_f 200 [a, b, c] (by simp) (by omega) (by omega) 5000 (by simp)
  unfold gossamerlaw2_OrderSigns.f
  rw [hr, Option.bind_some]
  have aw := awake_f 5000 (by omega)
  cases r with
  | true => rw [if_pos rfl, aw]; rfl
  | false =>
    have hl := hl rfl
    rw [tot3] at hl
    have r1 := lexP_range (uns (uDec (bs b))) (uns (uDec (bs a)))
    have r2 := lexP_range (uDec (bs b)) (uDec (bs a))
    have n1 := cmpT_neg b a
    have n2 := ptsT_neg b a
    have z1 : cmpT a a = 0 := lexP_self _
    have z2 : ptsT b b = 0 := lexP_self _
    have hz := zero_same a b
    have t1 : cmpT a b ≤ 0 → cmpT b c ≤ 0 → cmpT a c ≤ 0 := lexP_trans _ _ _
    have t2 : ptsT a b ≤ 0 → ptsT b c ≤ 0 → ptsT a c ≤ 0 := lexP_trans _ _ _
    have w1 : wrap64 (-cmpT b a) = -cmpT b a := w64 (by unfold cmpT; omega) (by unfold cmpT; omega)
    have w2 : wrap64 (-ptsT b a) = -ptsT b a := w64 (by unfold ptsT; omega) (by unfold ptsT; omega)
    rw [if_neg (by simp), compare_f a b (by omega) (by omega) _ (by omega), Option.bind_some, compare_f b c (by omega) (by omega) _ (by omega), Option.bind_some, compare_f a c (by omega) (by omega) _ (by omega), Option.bind_some,
      points_f a b (by omega) (by omega) _ (by omega), Option.bind_some, points_f b c (by omega) (by omega) _ (by omega), Option.bind_some, points_f a c (by omega) (by omega) _ (by omega), Option.bind_some,
      compare_f b a (by omega) (by omega) _ (by omega), Option.bind_some, w1, if_pos n1, points_f b a (by omega) (by omega) _ (by omega), Option.bind_some, w2, if_pos n2,
      compare_f a a (by omega) (by omega) _ (by omega), Option.bind_some, if_pos z1, points_f b b (by omega) (by omega) _ (by omega), Option.bind_some, if_pos z2, aw]
    have hbb : ((cmpT a b == 0) != (ptsT a b == 0)) = false := by
      by_cases e : cmpT a b = 0
      · rw [e, hz.1 e]; rfl
      · have e2 : ¬ ptsT a b = 0 := fun h => e (hz.2 h)
        rw [beq_eq_false_iff_ne.2 e, beq_eq_false_iff_ne.2 e2]; rfl
    rw [hbb, if_neg (by simp)]
    simp only [Option.bind_some]
    generalize cmpT a b = x at *
    generalize cmpT b c = y at *
    generalize cmpT a c = z at *
    generalize ptsT a b = p at *
    generalize ptsT b c = q at *
    generalize ptsT a c = s at *
    have f : ∀ (P : Prop) [Decidable P] , ¬ P → (if P then (some false : Option Bool) else some true) = some true := fun P _ h => if_neg h
    have g1 : ∀ (P Q R : Prop) [Decidable P] [Decidable Q] [Decidable R], (P → Q → ¬ R) → (if P then (if Q then (if R then (some false : Option Bool) else some true) else some true) else some true) = some true := fun P Q R _ _ _ h => by
      by_cases hp : P
      · rw [if_pos hp]
        by_cases hq : Q
        · rw [if_pos hq, if_neg (h hp hq)]
        · rw [if_neg hq]
      · rw [if_neg hp]
    have e := g1 (p ≤ 0) (q ≤ 0) (s > 0) (fun h1 h2 => by have := t2 h1 h2; omega)
    rw [e]
    exact g1 (x ≤ 0) (y ≤ 0) (z > 0) (fun h1 h2 => by have := t1 h1 h2; omega)

end Go.Proofs.Ytgabddjdgcembaa.LinkOrd
