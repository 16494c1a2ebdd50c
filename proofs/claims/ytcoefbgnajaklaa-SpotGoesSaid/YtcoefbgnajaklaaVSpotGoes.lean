/- The walk of the law SpotGoes. No condition. -/
import Derived.Test.YtcoefbgnajaklaaSA
import Derived.Test.YtcoefbgnajaklaaQB
import Derived.Test.YtcoefbgnajaklaaFl
import Derived.Lib.Hide
import Derived.Lib.ConvBytes
import Derived.Laws.ComplexArith
import Derived.Laws.FloatArith
import Derived.Laws.Cover2
import Derived.Laws.Cover3
namespace Go.Proofs.Ytcoefbgnajaklaa.LinkUtfTells
open Go Go.RowKit Go.Proofs.Ytcoefbgnajaklaa Go.Proofs.Ytcoefbgnajaklaa.PUtfTells Go.Proofs.YtcoefbgnajaklaaW.PrintWords Go.Proofs.YtcoefbgnajaklaaW.PrintLast Go.Proofs.YtcoefbgnajaklaaW.PrintMore Go.Proofs.Ytcoefbgnajaklaa.Utf Go.Lib Go.Proofs.Ytcoefbgnajaklaa.Fl
set_option linter.unusedVariables false
set_option linter.unusedSimpArgs false
set_option maxRecDepth 100000
/-- Do texts have more than so many bytes together? -/
def longB : Int → List ByteArray → Bool
  | _, [] => false
  | n, s :: ss => if n ≤ (s.size : Int) then true else longB (n - s.size - 1) ss
theorem longB_tot : ∀ (ss : List ByteArray) (n : Int), 0 ≤ n → longB n ss = false → (tot ss : Int) ≤ n
  | [], n, h, _ => by simp [tot]; exact h
  | s :: ss, n, h, hf => by
    unfold longB at hf
    by_cases c : n ≤ (s.size : Int)
    · rw [if_pos c] at hf; cases hf
    · rw [if_neg c] at hf
      have := longB_tot ss (n - s.size - 1) (by omega) hf
      have e : tot (s :: ss) = s.size + tot ss := by simp [tot]
      rw [e]; omega
set_option maxHeartbeats 1000000 in
theorem long_c (n : Int) (A : Option Addr) (c : Nat) (ss : List ByteArray) (w : World) (hC : Kd.string.C w A ss.length ss) (h0 : 0 ≤ n) (hn : n ≤ 1000000) (hl : ss.length ≤ 1000000) :
    Calls Try.prog 22 #[.int .i64 n, .slice A ss.length c] w fun e w' => e = .returned (.bool (longB n ss)) ∧ w = w' := by
  go_enter Try.func22, Try.ntmps22
  go_wp2_with fail
  go_loop [0, 5] (fun p i => ∃ (k : Nat) (m : Int), k ≤ ss.length ∧ i = .int .i64 k ∧ p = .int .i64 m ∧ 0 ≤ m ∧ m ≤ n ∧ Hid (longB n ss = longB m (ss.drop k))) (fun _ i => ss.length - (intOf i).toNat)
  case atStart => exact ⟨0, n, Nat.zero_le _, rfl, rfl, h0, Int.le_refl _, by rw [List.drop_zero]; exact Lib.hid rfl⟩
  case round =>
    obtain ⟨k, m, hk, rfl, rfl, hm0, hm1, hm⟩ := hrel
    by_cases hlt : k < ss.length
    · obtain ⟨ad, hA, hcell⟩ := Kd.at_string hC (k : Int) (by omega) (by omega)
      rw [rdOf_get ss k hlt, Int.toNat_natCast] at hcell
      cases hA
      have hd := List.drop_eq_getElem_cons hlt
      generalize ss[k] = s at hcell hd
      have dlt : decide ((k : Int) < (ss.length : Int)) = true := decide_eq_true (by omega)
      by_cases c : m ≤ (s.size : Int)
      · have hfin : longB n ss = true := by
          have := hm.out
          rw [hd] at this
          rw [this]; unfold longB; rw [if_pos c]
        have hfin := Lib.hid hfin
        have hm := 0
        clear hd
        have dc : decide (m ≤ (s.size : Int)) = true := decide_eq_true c
        go_wp2
        go_ret
        exact ⟨by simp [hfin.out], rfl⟩
      · have hfin : longB n ss = longB (m - s.size - 1) (ss.drop (k + 1)) := by
          have := hm.out
          rw [hd] at this
          rw [this]
          conv => lhs; unfold longB
          rw [if_neg c]
        have hfin := Lib.hid hfin
        have hm := 0
        clear hd
        have dc : decide (m ≤ (s.size : Int)) = false := decide_eq_false c
        go_wp2
        exact ⟨⟨k + 1, m - s.size - 1, by omega, by go_num, rfl, by omega, by omega, hfin⟩, by simp [intOf]; omega⟩
    · obtain rfl : k = ss.length := by omega
      have hfin : longB n ss = false := by rw [hm.out, List.drop_length]; rfl
      have hfin := Lib.hid hfin
      have hm := 0
      go_wp2
      go_ret
      exact ⟨by simp [hfin.out], rfl⟩

/-- A number, from 0 to below n. -/
def uLow (x n : Int) : Int := (x % 18446744073709551616) % n
theorem uLow_b (x n : Int) (h : 0 < n) : 0 ≤ uLow x n ∧ uLow x n < n := by
  unfold uLow
  exact ⟨Int.emod_nonneg _ (by omega), Int.emod_lt_of_pos _ h⟩
theorem low_f (x n : Int) (h : 0 < n) (h1 : n < 4611686018427387904) : gossamerlaw0_Low.f x n = some (uLow x n) := by
  have e1 : IntKind.u64.wrap n = n := by simp only [IntKind.wrap, IntKind.bits, IntKind.signed]; simp; omega
  have e2 : IntKind.u64.wrap x = x % 18446744073709551616 := by simp [IntKind.wrap, IntKind.bits, IntKind.signed]
  have hb := uLow_b x n h
  unfold gossamerlaw0_Low.f
  rw [e1, e2, if_neg (by omega), Int.tmod_eq_emod_of_nonneg (Int.emod_nonneg _ (by omega))]
  show some (wrap64 (uLow x n)) = _
  rw [w64 (by omega) (by omega)]
theorem low_c (x n : Int) (w : World) (h : 0 < n) (h1 : n < 4611686018427387904) :
    Calls Try.prog 24 #[.int .i64 x, .int .i64 n] w fun e w' => e = .returned (.int .i64 (uLow x n)) ∧ Below w.heap.size w w' :=
  (gossamerlaw0_Low.calls x n _ w (low_f x n h h1)).mono fun e w' h => ⟨h.1, h.2.below⟩

/-- A code point that may be, of a number. -/
def uScal (x : Int) : Int := if 55296 ≤ uLow x 1114112 ∧ uLow x 1114112 ≤ 57343 then uLow x 1114112 - 55296 else uLow x 1114112
theorem uScal_ok (x : Int) : Scal (uScal x) := by
  have := uLow_b x 1114112 (by omega)
  unfold uScal Scal
  split <;> omega
theorem scalar_f (x : Int) : gossamerlaw0_Scalar.f x = some (uScal x) := by
  have hb := uLow_b x 1114112 (by omega)
  unfold gossamerlaw0_Scalar.f uScal
  rw [low_f x 1114112 (by omega) (by omega)]
  simp only [Option.bind_some]
  rw [w32 (by omega) (by omega)]
  by_cases c1 : uLow x 1114112 ≥ 55296
  · rw [if_pos c1]
    by_cases c2 : uLow x 1114112 ≤ 57343
    · rw [if_pos c2, if_pos ⟨c1, c2⟩, w32 (by omega) (by omega)]
    · rw [if_neg c2, if_neg (by omega)]
  · rw [if_neg c1, if_neg (by omega)]
theorem scalar_c (x : Int) (w : World) :
    Calls Try.prog 27 #[.int .i64 x] w fun e w' => e = .returned (.int .i32 (uScal x)) ∧ Below w.heap.size w w' :=
  (gossamerlaw0_Scalar.calls x _ w (scalar_f x)).mono fun e w' h => ⟨h.1, h.2.below⟩

theorem bs_append (a b : ByteArray) : bs (a ++ b) = bs a ++ bs b := by
  unfold bs Go.Proofs.YtcoefbgnajaklaaW.PrintWords.bytesOf
  rw [ByteArray.data_append]
  simp
set_option maxHeartbeats 2000000 in
theorem spotGoes_walk (n m : Int) (a b : ByteArray) (w : World) : 
    Calls Try.prog 5 #[.int .i64 n, .int .i64 m, .string a, .string b] w fun e w' => e = .returned (.bool true) ∧ Below w.heap.size w w' := by
  have kl := fun (w : World) => long_c 200 (some ⟨w.heap.size, 0, none⟩) 2 [a, b] _ (C_news w 9 (0, 0) [a, b] (by simp)) (by omega) (by omega) (by simp)
  cases hlb : longB 200 [a, b] with
  | true =>
    rw [hlb] at kl
    have hlb := 0
    have kl := Lib.hid kl
    go_enter Try.func5, Try.ntmps5
    go_wp2_with fail
    refine (kl.out w).mono ?_
    rintro e w1 ⟨rfl, rfl⟩
    go_wp2_with fail
    refine (awake3_true _).mono ?_
    rintro e w1 ⟨rfl, hb⟩
    go_wp2_with fail
    go_ret
    exact ⟨rfl, below_step (below_alloc (Below.refl _ _) _) hb⟩
  | false =>
    have ht := longB_tot [a, b] 200 (by omega) hlb
    rw [hlb] at kl
    have hlb := 0
    have kl := Lib.hid kl
    have e2 : tot [a, b] = a.size + b.size := by simp [tot]
    rw [e2] at ht
    have e2 := 0
    have kc := fun (w : World) (s : ByteArray) => print_bytes (P := Try.prog) 9 37 5 Try.underlying9 Try.underlying37 Try.underlying5 s w
    have hl := bs_len a
    have kv : ∀ (W : World) (h : Nat), h = W.heap.size → Calls Try.prog 23 #[.slice (some ⟨h, 0, none⟩) a.size (grownCap W a.size 0 5)] (bytesWorld W 5 a) fun e w' => e = .returned (.bool (uValid (bs a))) ∧ Below (bytesWorld W 5 a).heap.size (bytesWorld W 5 a) w' := by
      intro W h e
      subst e
      have := rvalid_c (some ⟨W.heap.size, 0, none⟩) (grownCap W a.size 0 5) (bs a) (bytesWorld W 5 a) (bs_C W a (by omega)) (by rw [hl]; exact grownCap_ge _ _ _ _) (bs_byt a) (by omega)
      rwa [hl] at this
    cases hv : uValid (bs a) with
    | false =>
      rw [hv] at kv
      have hv := 0
      have kv := Lib.hid kv
      go_enter Try.func5, Try.ntmps5
      go_wp2_with fail
      refine (kl.out w).mono ?_
      rintro e w1 ⟨rfl, rfl⟩
      go_wp2_with fail
      refine (kv.out _ _ (by simp)).mono ?_
      rintro e w1 ⟨rfl, hb1⟩
      have hB1 := below_step (below_alloc (Below.refl _ w) _) (below_step (bs_below _ a) hb1)
      clear hb1
      go_wp2_with fail
      refine (awake3_true _).mono ?_
      rintro e w2 ⟨rfl, hb⟩
      go_wp2_with fail
      go_ret
      exact ⟨rfl, below_step hB1 hb⟩
    | true =>
      have hp := (decode_parts (bs_byt a) hv (bs b)).1
      rw [← bs_append] at hp
      rw [hv] at kv
      have hv := 0
      have kv := Lib.hid kv
      have lc := low_c n 549755813888
      have lc2 := low_c m 549755813888
      have b1 := uLow_b n 549755813888 (by omega)
      have b2 := uLow_b m 549755813888 (by omega)
      obtain ⟨L, hL⟩ : ∃ L : Nat, uLow n 549755813888 = L := ⟨(uLow n 549755813888).toNat, by omega⟩
      obtain ⟨C, hC⟩ : ∃ C : Nat, uLow m 549755813888 = C := ⟨(uLow m 549755813888).toNat, by omega⟩
      rw [hL] at lc b1
      rw [hC] at lc2 b2
      clear hL hC hl
      have sab : (a ++ b).size = a.size + b.size := ByteArray.size_append
      have ls := sp_le (uDec (bs a)) (1 + L, 1 + C) (by omega)
      have l2 := sp_le (uDec (bs b)) (sp (uDec (bs a)) (1 + L, 1 + C)) ls.2.2.1
      have da := bs_dec a
      have db := bs_dec b
      have g1 := fun w => rbehind_c (1 + L) (1 + C) (a ++ b) w (by omega) (by omega) (by omega) (by omega)
      have g2 := fun w => behind_c (1 + L) (1 + C) (a ++ b) w (by omega) (by omega) (by omega) (by omega)
      have g3 := fun w => behind_c (1 + L) (1 + C) a w (by omega) (by omega) (by omega) (by omega)
      have g4 := fun w => behind_c (1 + L) (1 + C) ByteArray.empty w (by omega) (by omega) (by omega) (by simp)
      have en : uDec (bs ByteArray.empty) = [] := by rw [bs_empty, decode_nil]
      rw [hp, sp_append] at g1 g2
      rw [en, sp_nil] at g4
      have sab := 0
      have hp := 0
      have en := 0
      generalize sp (uDec (bs a)) (1 + L, 1 + C) = q at *
      obtain ⟨q1, q2⟩ := q
      simp only at ls l2
      have g5 := fun w => behind_c q1 q2 b w (by omega) (by omega) (by omega) (by omega)
      generalize sp (uDec (bs b)) (q1, q2) = z at *
      obtain ⟨z1, z2⟩ := z
      simp only at l2
      have n1 := number_c (1 + L) (1 + C)
      have n2 := number_c z1 z2
      have c1 : ((1 + L : Nat) : Int) = 1 + (L : Int) := by omega
      have c2 : ((1 + C : Nat) : Int) = 1 + (C : Int) := by omega
      rw [c1, c2] at n1
      simp only [c1, c2] at g1
      have o1 := ord_eq z1 (by omega)
      have o2 := ord_eq z2 (by omega)
      have o3 := ord_eq (1 + L) (by omega)
      have o4 := ord_eq (1 + C) (by omega)
      have c1 := 0
      have c2 := 0
      have lc := Lib.hid lc
      have lc2 := Lib.hid lc2
      have g1 := Lib.hid g1
      have g2 := Lib.hid g2
      have g3 := Lib.hid g3
      have g4 := Lib.hid g4
      have g5 := Lib.hid g5
      have n1 := Lib.hid n1
      have n2 := Lib.hid n2
      go_enter Try.func5, Try.ntmps5
      go_wp2_with fail
      refine (kl.out w).mono ?_
      rintro e w1 ⟨rfl, rfl⟩
      go_wp2_with fail
      refine (kv.out _ _ (by simp)).mono ?_
      rintro e w1 ⟨rfl, hb1⟩
      have hB1 := below_step (below_alloc (Below.refl _ w) _) (below_step (bs_below _ a) hb1)
      clear hb1
      go_wp2_with fail
      refine (lc.out w1 (by omega) (by omega)).mono ?_
      rintro e w2 ⟨rfl, hb2⟩
      have hB2 := below_step hB1 hb2
      clear hb2 hB1
      go_wp2_with fail
      refine (lc2.out w2 (by omega) (by omega)).mono ?_
      rintro e w3 ⟨rfl, hb3⟩
      have hB3 := below_step hB2 hb3
      clear hb3 hB2
      go_wp2_with fail
      refine (n1.out w3).mono ?_
      rintro e w4 ⟨rfl, rfl⟩
      go_wp2_with fail
      refine (lc.out w3 (by omega) (by omega)).mono ?_
      rintro e w4 ⟨rfl, hb4⟩
      have hB4 := below_step hB3 hb4
      clear hb4 hB3
      go_wp2_with fail
      refine (lc2.out w4 (by omega) (by omega)).mono ?_
      rintro e w5 ⟨rfl, hb5⟩
      have hB5 := below_step hB4 hb5
      clear hb5 hB4
      go_wp2_with fail
      refine (g1.out w5).mono ?_
      rintro e w6 ⟨rfl, hb6⟩
      have hB6 := below_step hB5 hb6
      clear hb6 hB5
      go_wp2_with fail
      refine (g2.out w6).mono ?_
      rintro e w7 ⟨rfl, hb7⟩
      have hB7 := below_step hB6 hb7
      clear hb7 hB6
      go_wp2_with fail
      refine (n2.out w7).mono ?_
      rintro e w8 ⟨rfl, rfl⟩
      go_wp2_with fail
      refine (g3.out w7).mono ?_
      rintro e w8 ⟨rfl, hb8⟩
      have hB8 := below_step hB7 hb8
      clear hb8 hB7
      go_wp2_with fail
      refine (g5.out w8).mono ?_
      rintro e w9 ⟨rfl, hb9⟩
      have hB9 := below_step hB8 hb9
      clear hb9 hB8
      go_wp2_with fail
      refine (g4.out w9).mono ?_
      rintro e w10 ⟨rfl, hb10⟩
      have hB10 := below_step hB9 hb10
      clear hb10 hB9
      go_wp2_with fail
      refine (awake3_true w10).mono ?_
      rintro e w11 ⟨rfl, hb11⟩
      go_wp2_with fail
      go_ret
      exact ⟨rfl, below_step hB10 hb11⟩
theorem core_SpotGoes (n m : Int) (a b : ByteArray) (w : World) (_h0 : (Lit.int .i64 n).wf = true) (_h1 : (Lit.int .i64 m).wf = true) (_h2 : a.size ≤ 140737488351232) (_h3 : b.size ≤ 140737488351232) : 
    Calls Try.prog 5 #[.int .i64 n, .int .i64 m, .string a, .string b] w fun e w' => e = .returned (.bool true) ∧ Below w.heap.size w w' := spotGoes_walk n m a b w

end Go.Proofs.Ytcoefbgnajaklaa.LinkUtfTells
