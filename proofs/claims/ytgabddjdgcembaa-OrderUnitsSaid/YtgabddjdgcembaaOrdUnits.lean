/- The orders of texts in plain numbers and lists: which one is less by its units, and by its code points. No condition beyond those named in each theorem. -/
import Derived.Test.YtgabddjdgcembaaOrdM
import Derived.Test.YtgabddjdgcembaaOrdL
import Derived.Test.YtgabddjdgcembaaPOrdx20
namespace Go.Proofs.Ytgabddjdgcembaa.LinkOrd
open Go Go.RowKit Go.Proofs.Ytgabddjdgcembaa Go.Proofs.Ytgabddjdgcembaa.POrd Go.Proofs.YtgabddjdgcembaaW.PrintWords Go.Proofs.YtgabddjdgcembaaW.PrintLast Go.Proofs.YtgabddjdgcembaaW.PrintMore Go.Proofs.Ytgabddjdgcembaa.Utf Go.Lib
set_option linter.unusedVariables false
set_option linter.unusedSimpArgs false
set_option maxRecDepth 100000
theorem tot2 (a b : ByteArray) : totL [a, b] = a.size + b.size + 2 := by simp [totL]; omega
theorem uns_len (rs : List Int) : (uns rs).length ≤ 2 * rs.length := by
  induction rs with
  | nil => simp [uns]
  | cons r rs ih =>
    have e : uns (r :: rs) = un r ++ uns rs := rfl
    have : (un r).length ≤ 2 := by unfold un; split <;> simp
    rw [e]; simp only [List.length_append, List.length_cons]; omega
theorem unitsLaw_end (a b : ByteArray) (xs ys : List Int) (ha : a.size ≤ 1000) (hb : b.size ≤ 1000) (w i : Int) (k : Nat) (hk : 4000 ≤ k) (hw : w = cmpT a b) (h : w ≠ 0 ∨ (xs.length : Int) ≤ i ∧ (ys.length : Int) ≤ i) : gossamerlaw2_OrderUnits.l0 k a b xs ys w i = some true := by
  obtain ⟨k, rfl⟩ : ∃ q, k = q + 2 := ⟨k - 2, by omega⟩
  simp only [gossamerlaw2_OrderUnits.l0, gossamerlaw2_OrderUnits.j1]
  have e : ∀ (p : Prop) [Decidable p] (x : Option Bool), (if p then x else x) = x := fun p _ x => by split <;> rfl
  have fin : ((order_Compare.f k a b).bind fun t452 => if t452 = w then (gossamerlaw2_awake.f k).bind fun t453 => some t453 else some false) = some true := by
    rw [compare_f a b (by omega) (by omega) k (by omega), Option.bind_some, if_pos hw.symm, awake_f k (by omega)]; rfl
  by_cases c0 : w = 0
  · rw [if_pos c0]
    have h' : (xs.length : Int) ≤ i ∧ (ys.length : Int) ≤ i := h.resolve_left (fun n => n c0)
    rw [if_neg (by omega), decide_eq_false (by omega), if_neg (by simp)]
    exact fin
  · rw [if_neg c0, if_neg (by simp)]
    exact fin
theorem unitsLaw_l0 (a b : ByteArray) (xs ys : List Int) (ha : a.size ≤ 1000) (hb : b.size ≤ 1000) (hx : xs.length ≤ 100000) (hy : ys.length ≤ 100000) : ∀ (n i k : Nat), xs.length ≤ i + n → ys.length ≤ i + n → i ≤ xs.length → i ≤ ys.length → 2 * n + 4010 ≤ k → lexP (xs.drop i) (ys.drop i) = cmpT a b →
    gossamerlaw2_OrderUnits.l0 k a b xs ys 0 (i : Int) = some true
  | n, i, k, h1, h2, i1, i2, hk, hc => by
    by_cases c : i < xs.length ∨ i < ys.length
    · obtain ⟨n, rfl⟩ : ∃ q, n = q + 1 := ⟨n - 1, by omega⟩
      obtain ⟨k, rfl⟩ : ∃ q, k = q + 2 := ⟨k - 2, by omega⟩
      simp only [gossamerlaw2_OrderUnits.l0, gossamerlaw2_OrderUnits.j1]
      rw [if_pos trivial]
      by_cases c1 : i < xs.length
      · rw [if_pos (by omega), if_pos trivial, if_neg (by omega)]
        by_cases c2 : i < ys.length
        · rw [if_neg (by omega), if_pos (by omega), if_pos (by omega), if_pos (by omega), w64 (by omega) (by omega)]
          rw [rd_drop xs i c1, rd_drop ys i c2, lexP] at hc
          by_cases d1 : rd xs (i : Int) < rd ys (i : Int)
          · have e : cmpI (rd xs (i : Int)) (rd ys (i : Int)) = -1 := by unfold cmpI; rw [if_pos d1]
            rw [e, if_neg (by omega)] at hc
            rw [if_pos d1]
            exact unitsLaw_end a b xs ys ha hb (-1) _ k (by omega) hc (.inl (by omega))
          · rw [if_neg d1]
            by_cases d2 : rd xs (i : Int) > rd ys (i : Int)
            · have e : cmpI (rd xs (i : Int)) (rd ys (i : Int)) = 1 := by unfold cmpI; rw [if_neg d1, if_pos d2]
              rw [e, if_neg (by omega)] at hc
              rw [if_pos d2]
              exact unitsLaw_end a b xs ys ha hb 1 _ k (by omega) hc (.inl (by omega))
            · have e : cmpI (rd xs (i : Int)) (rd ys (i : Int)) = 0 := by unfold cmpI; rw [if_neg d1, if_neg d2]
              rw [if_pos e] at hc
              rw [if_neg d2]
              exact unitsLaw_l0 a b xs ys ha hb hx hy n (i + 1) k (by omega) (by omega) (by omega) (by omega) (by omega) hc
        · rw [if_pos (by omega), w64 (by omega) (by omega)]
          rw [rd_drop xs i c1, List.drop_eq_nil_of_le (by omega : ys.length ≤ i)] at hc
          exact unitsLaw_end a b xs ys ha hb 1 _ k (by omega) hc (.inl (by omega))
      · have c2 : i < ys.length := by omega
        rw [if_neg (by omega), decide_eq_true (by omega), if_pos rfl, if_pos (by omega), w64 (by omega) (by omega)]
        rw [rd_drop ys i c2, List.drop_eq_nil_of_le (by omega : xs.length ≤ i)] at hc
        exact unitsLaw_end a b xs ys ha hb (-1) _ k (by omega) hc (.inl (by omega))
    · rw [List.drop_eq_nil_of_le (by omega : xs.length ≤ i), List.drop_eq_nil_of_le (by omega : ys.length ≤ i)] at hc
      exact unitsLaw_end a b xs ys ha hb 0 _ k (by omega) hc (.inr ⟨by omega, by omega⟩)
theorem OrderUnits : gossamerlaw2_OrderUnits.Pure := by
  intro a b _ _
  refine ⟨9000, ?_⟩
  obtain ⟨r, hr, hl⟩ := long_f 200 [a, b] (by simp) (by omega) (by omega) 9000 (by simp)
  unfold gossamerlaw2_OrderUnits.f
  rw [hr, Option.bind_some]
  cases r with
  | true => rw [if_pos rfl, awake_f _ (by omega)]; rfl
  | false =>
    have hl := hl rfl
    rw [tot2] at hl
    have h3 := bs_dec a
    have h4 := bs_dec b
    have h5 := uns_len (uDec (bs a))
    have h6 := uns_len (uDec (bs b))
    rw [if_neg (by simp), units_f a (by omega) _ (by omega), Option.bind_some, units_f b (by omega) _ (by omega), Option.bind_some]
    exact unitsLaw_l0 a b (uns (uDec (bs a))) (uns (uDec (bs b))) (by omega) (by omega) (by omega) (by omega) 1000 0 9000 (by omega) (by omega) (by omega) (by omega) (by omega) rfl

end Go.Proofs.Ytgabddjdgcembaa.LinkOrd
