/- The walk of the law SpotSums. No condition. -/
import Derived.Test.YtcoefbgnajaklaaSA
import Derived.Test.YtcoefbgnajaklaaFl
import Derived.Lib.Hide
import Derived.Lib.ConvBytes
import Derived.Laws.ComplexArith
import Derived.Laws.FloatArith
import Derived.Laws.Cover2
import Derived.Laws.Cover3
namespace Go.Proofs.Ytcoefbgnajaklaa.LinkUtfTells
open Go Go.RowKit Go.Proofs.Ytcoefbgnajaklaa Go.Proofs.Ytcoefbgnajaklaa.PUtfTells Go.Proofs.YtcoefbgnajaklaaW.PrintWords Go.Proofs.YtcoefbgnajaklaaW.PrintLast Go.Proofs.YtcoefbgnajaklaaW.PrintMore Go.Proofs.Ytcoefbgnajaklaa.Utf Go.Lib Go.Proofs.Ytcoefbgnajaklaa.Fl
set_option linter.unusedVariables false
set_option linter.unusedSimpArgs false
set_option maxRecDepth 100000
theorem mul_fl (a b : Nat) (ha : a < 2 ^ 53) (hb : b < 2 ^ 53) (h : a * b < 2 ^ 53) : Ieee.double.mul (fl a) (fl b) = some (fl (a * b)) := by
  obtain ⟨i, hi⟩ := read_rep a ha
  obtain ⟨j, hj⟩ := read_rep b hb
  unfold Ieee.Format.mul
  rw [hi, hj]
  simp only [Ieee.Datum.product, Option.map_some, Option.some.injEq]
  have e1 : a * 2 ^ i * (b * 2 ^ j) = a * b * 2 ^ (i + j) := by
    rw [Nat.pow_add, Nat.mul_assoc, Nat.mul_assoc, Nat.mul_left_comm (2 ^ i) b]
  have e2 : -(i : Int) + -(j : Int) = -((i + j : Nat) : Int) := by omega
  rw [e1, e2]
  exact write_rep (a * b) h _

/-- Do texts have more than so many bytes together? -/
def longB : Int → List ByteArray → Bool
  | _, [] => false
  | n, s :: ss => if n ≤ (s.size : Int) then true else longB (n - s.size - 1) ss
theorem longB_tot : ∀ (ss : List ByteArray) (n : Int), 0 ≤ n → longB n ss = false → (tot ss : Int) ≤ n
  | [], n, h, _ => by simp [tot]; exact h
  | s :: ss, n, h, hf => by
    unfold longB at hf
    by_cases c : n ≤ (s.size : Int)
    · rw [if_pos c] at hf; cases hf
    · rw [if_neg c] at hf
      have := longB_tot ss (n - s.size - 1) (by omega) hf
      have e : tot (s :: ss) = s.size + tot ss := by simp [tot]
      rw [e]; omega
set_option maxHeartbeats 1000000 in
theorem long_c (n : Int) (A : Option Addr) (c : Nat) (ss : List ByteArray) (w : World) (hC : Kd.string.C w A ss.length ss) (h0 : 0 ≤ n) (hn : n ≤ 1000000) (hl : ss.length ≤ 1000000) :
    Calls Try.prog 22 #[.int .i64 n, .slice A ss.length c] w fun e w' => e = .returned (.bool (longB n ss)) ∧ w = w' := by
  go_enter Try.func22, Try.ntmps22
  go_wp2_with fail
  go_loop [0, 5] (fun p i => ∃ (k : Nat) (m : Int), k ≤ ss.length ∧ i = .int .i64 k ∧ p = .int .i64 m ∧ 0 ≤ m ∧ m ≤ n ∧ Hid (longB n ss = longB m (ss.drop k))) (fun _ i => ss.length - (intOf i).toNat)
  case atStart => exact ⟨0, n, Nat.zero_le _, rfl, rfl, h0, Int.le_refl _, by rw [List.drop_zero]; exact Lib.hid rfl⟩
  case round =>
    obtain ⟨k, m, hk, rfl, rfl, hm0, hm1, hm⟩ := hrel
    by_cases hlt : k < ss.length
    · obtain ⟨ad, hA, hcell⟩ := Kd.at_string hC (k : Int) (by omega) (by omega)
      rw [rdOf_get ss k hlt, Int.toNat_natCast] at hcell
      cases hA
      have hd := List.drop_eq_getElem_cons hlt
      generalize ss[k] = s at hcell hd
      have dlt : decide ((k : Int) < (ss.length : Int)) = true := decide_eq_true (by omega)
      by_cases c : m ≤ (s.size : Int)
      · have hfin : longB n ss = true := by
          have := hm.out
          rw [hd] at this
          rw [this]; unfold longB; rw [if_pos c]
        have hfin := Lib.hid hfin
        have hm := 0
        clear hd
        have dc : decide (m ≤ (s.size : Int)) = true := decide_eq_true c
        go_wp2
        go_ret
        exact ⟨by simp [hfin.out], rfl⟩
      · have hfin : longB n ss = longB (m - s.size - 1) (ss.drop (k + 1)) := by
          have := hm.out
          rw [hd] at this
          rw [this]
          conv => lhs; unfold longB
          rw [if_neg c]
        have hfin := Lib.hid hfin
        have hm := 0
        clear hd
        have dc : decide (m ≤ (s.size : Int)) = false := decide_eq_false c
        go_wp2
        exact ⟨⟨k + 1, m - s.size - 1, by omega, by go_num, rfl, by omega, by omega, hfin⟩, by simp [intOf]; omega⟩
    · obtain rfl : k = ss.length := by omega
      have hfin : longB n ss = false := by rw [hm.out, List.drop_length]; rfl
      have hfin := Lib.hid hfin
      have hm := 0
      go_wp2
      go_ret
      exact ⟨by simp [hfin.out], rfl⟩

theorem ord_le (a b : Nat) (ha : a < 2 ^ 53) (hb : b < 2 ^ 53) (h : a ≤ b) : (FloatKind.f64.format.order (fl a) (fl b) == some .lt || FloatKind.f64.format.order (fl a) (fl b) == some .eq) = true := by
  have e : FloatKind.f64.format.order (fl a) (fl b) = some (compare a b) := order_fl a b ha hb
  rw [e]
  rcases Nat.lt_or_ge a b with c | c
  · rw [Nat.compare_eq_lt.2 c]; rfl
  · obtain rfl : a = b := by omega
    rw [Nat.compare_eq_eq.2 rfl]; rfl
theorem mul_fx (t : TypeId) (a c : Nat) (h0 : a < 2 ^ 53) (h2 : c < 2 ^ 53) (h1 : a * c < 2 ^ 53) (w : World) : (binOp .mul t (.float .f64 (fl a)) (.float .f64 (fl c))).run Try.prog w = .ok (.float .f64 (fl (a * c))) w := by
  have e1 := mul_fl a c h0 h2 h1
  have f : FloatKind.f64.format = Ieee.double := rfl
  have := run_floatArith (P := Try.prog) w (op := .mul) (k := .f64) (x := fl a) (y := fl c) (r := fl (a * c)) (by unfold floatBits; rw [f]; exact e1)
  simpa [binOp] using this
theorem wds_add (ss : List ByteArray) (s : ByteArray) : wds (ss ++ [s]) (0, 0) = ((wds ss (0, 0)).1 + (wds [s] (0, 0)).1, (wds ss (0, 0)).2 + (wds [s] (0, 0)).2) := by
  rw [wds_snoc, wd_eq]; rfl
theorem wds_two (ss : List ByteArray) : (wds ss (0, 0)).1 ≤ (wds ss (0, 0)).2 ∧ (wds ss (0, 0)).2 ≤ 2 * (wds ss (0, 0)).1 := by
  have key : ∀ (ss : List ByteArray) (p : Nat × Nat), p.1 ≤ p.2 → p.2 ≤ 2 * p.1 → (wds ss p).1 ≤ (wds ss p).2 ∧ (wds ss p).2 ≤ 2 * (wds ss p).1 := by
    intro ss
    induction ss with
    | nil => intro p h1 h2; exact ⟨h1, h2⟩
    | cons s ss ih =>
      intro p h1 h2
      have e : wds (s :: ss) p = wds ss (wd (uDec (bs s)) p) := rfl
      rw [e]
      have := wd_le (uDec (bs s))
      apply ih
      · rw [wd_eq]; simp only; omega
      · rw [wd_eq]; simp only; omega
  exact key ss (0, 0) (Nat.le_refl _) (Nat.le_refl _)
set_option maxHeartbeats 2000000 in
theorem spotSums_walk (A : Option Addr) (c : Nat) (ss : List ByteArray) (w : World) (hC : Kd.string.C w A ss.length ss) : 
    Calls Try.prog 4 #[.slice A ss.length c] w fun e w' => e = .returned (.bool true) ∧ Below w.heap.size w w' := by
  by_cases h1 : 20 < ss.length
  · have d1 : decide (20 < ss.length) = true := decide_eq_true h1
    go_enter Try.func4, Try.ntmps4
    go_wp2_with fail
    refine (awake3_true w).mono ?_
    rintro e w1 ⟨rfl, hb⟩
    go_wp2_with fail
    go_ret
    exact ⟨rfl, hb⟩
  have d1 : decide (20 < ss.length) = false := decide_eq_false h1
  have kl := long_c 300 A c ss w hC (by omega) (by omega) (by omega)
  cases hlb : longB 300 ss with
  | true =>
    rw [hlb] at kl
    have hlb := 0
    have kl := Lib.hid kl
    go_enter Try.func4, Try.ntmps4
    go_wp2_with fail
    refine kl.out.mono ?_
    rintro e w1 ⟨rfl, rfl⟩
    go_wp2_with fail
    refine (awake3_true w).mono ?_
    rintro e w1 ⟨rfl, hb⟩
    go_wp2_with fail
    go_ret
    exact ⟨rfl, hb⟩
  | false =>
    have ht := longB_tot ss 300 (by omega) hlb
    rw [hlb] at kl
    have kl := Lib.hid kl
    clear hlb
    have hbd := wds_bd ss (0, 0)
    have htwo := wds_two ss
    have kall := fun (w1 : World) (h : Below w.heap.size w w1) => wideN_c A c ss w1 (Kd.C_below hC h) (by omega) (by omega)
    have kall := Lib.hid kall
    have h0 : Value.complex .f64 0 0 = cx (wds (ss.take 0) (0, 0)).1 (wds (ss.take 0) (0, 0)).2 := by simp [wds, cx, fl_zero]
    have h0 := Lib.hid h0
    go_enter Try.func4, Try.ntmps4
    go_wp2_with fail
    refine kl.out.mono ?_
    rintro e w1 ⟨rfl, rfl⟩
    go_wp2_with fail
    go_loopw [3, 4] (fun p i w' => ∃ k : Nat, k ≤ ss.length ∧ i = .int .i64 k ∧ p = cx (wds (ss.take k) (0, 0)).1 (wds (ss.take k) (0, 0)).2 ∧ Aside0 (Below w.heap.size w w')) (fun _ i _ => ss.length - (intOf i).toNat)
    case atStart => exact ⟨0, Nat.zero_le _, rfl, h0.out, ⟨Below.refl _ _⟩⟩
    case round =>
      obtain ⟨k, hk, rfl, rfl, hb⟩ := hrel
      by_cases hlt : k < ss.length
      · have hC2 := Kd.C_below hC hb.out
        obtain ⟨ad, hA, hcell⟩ := Kd.at_string hC2 (k : Int) (by omega) (by omega)
        rw [rdOf_get ss k hlt, Int.toNat_natCast] at hcell
        cases hA
        have hsn := take_snoc_s ss k hlt
        have hw := wds_add (ss.take k) ss[k]
        rw [← hsn] at hw
        have htk := tot_take ss (k + 1)
        rw [hsn, tot_snoc] at htk
        have hb1 := wds_bd (ss.take k) (0, 0)
        have hb2 := wds_bd [ss[k]] (0, 0)
        clear hsn hC2
        generalize ss[k] = s at *
        have e2 : tot [s] = s.size := by simp [tot]
        rw [e2] at hb2
        have kw := fun (w : World) => wideN_c (some ⟨w.heap.size, 0, none⟩) 1 [s] _ (C_news w 9 (0, 0) [s] (by simp)) (by rw [e2]; omega) (by simp)
        generalize wds (ss.take k) (0, 0) = q at *
        generalize wds [s] (0, 0) = z at *
        obtain ⟨q1, q2⟩ := q
        obtain ⟨z1, z2⟩ := z
        simp only at hb1 hb2
        have kw := Lib.hid kw
        have hw := Lib.hid hw
        have e2 := Lib.hid e2
        have dlt : decide ((k : Int) < (ss.length : Int)) = true := decide_eq_true (by omega)
        have s1 := fun w => add_cx 26 q1 q2 z1 z2 (by omega) (by omega) w
        go_wp2_with fail
        refine (kw.out wr).mono ?_
        rintro e w2 ⟨rfl, hb3⟩
        have hB := Aside0.mk (below_step hb.out (below_step (below_alloc (Below.refl _ _) _) hb3))
        clear hb3
        go_wp2_with fail
        exact ⟨⟨k + 1, by omega, by go_num, by rw [hw.out], hB⟩, by simp [intOf]; omega⟩
      · obtain rfl : k = ss.length := by omega
        rw [List.take_length]
        have ka := kall.out wr hb.out
        have kn := fun (w1 : World) => wideN_c none 0 [] w1 (Kd.C_nil _ _) (by simp [tot]) (by simp)
        have e0 : wds [] (0, 0) = (0, 0) := rfl
        rw [e0] at kn
        simp only [cx, fl_zero] at kn
        have kn := Lib.hid kn
        have kall := 0
        have kl := 0
        have h0 := 0
        generalize wds ss (0, 0) = q at *
        obtain ⟨q1, q2⟩ := q
        simp only at hbd htwo
        have o1 := ord_eq q1 (by omega)
        have o2 := ord_eq q2 (by omega)
        have o0 := ord_eq 0 (by omega)
        rw [fl_zero] at o0
        have l1 := ord_le q1 q2 (by omega) (by omega) htwo.1
        have l2 := ord_le q2 (2 * q1) (by omega) (by omega) htwo.2
        have m1 := fun w => mul_fx 34 2 q1 (by omega) (by omega) (by omega) w
        rw [fl_two] at m1
        have ka := Lib.hid ka
        go_wp2_with fail
        refine ka.out.mono ?_
        rintro e w2 ⟨rfl, hb2⟩
        have hB := below_step hb.out hb2
        clear hb2
        go_wp2_with fail
        refine (kn.out w2).mono ?_
        rintro e w3 ⟨rfl, hb3⟩
        have hB3 := below_step hB hb3
        clear hb3
        go_wp2_with fail
        refine (awake3_true w3).mono ?_
        rintro e w4 ⟨rfl, hb4⟩
        go_wp2_with fail
        go_ret
        exact ⟨rfl, below_step hB3 hb4⟩
theorem core_SpotSums (A : Option Addr) (c : Nat) (ss : List ByteArray) (w : World) (hC : Kd.string.C w A ss.length ss) (_h : ss.length ≤ c) : 
    Calls Try.prog 4 #[.slice A ss.length c] w fun e w' => e = .returned (.bool true) ∧ Below w.heap.size w w' := spotSums_walk A c ss w hC

end Go.Proofs.Ytcoefbgnajaklaa.LinkUtfTells
