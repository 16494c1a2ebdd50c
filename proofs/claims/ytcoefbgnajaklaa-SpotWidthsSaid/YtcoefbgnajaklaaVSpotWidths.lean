/- The walk of the law SpotWidths. No condition. -/
import Derived.Test.YtcoefbgnajaklaaSA
import Derived.Test.YtcoefbgnajaklaaQB
import Derived.Test.YtcoefbgnajaklaaFl
import Derived.Lib.Hide
import Derived.Lib.ConvBytes
import Derived.Laws.ComplexArith
import Derived.Laws.FloatArith
import Derived.Laws.Cover2
import Derived.Laws.Cover3
namespace Go.Proofs.Ytcoefbgnajaklaa.LinkUtfTells
open Go Go.RowKit Go.Proofs.Ytcoefbgnajaklaa Go.Proofs.Ytcoefbgnajaklaa.PUtfTells Go.Proofs.YtcoefbgnajaklaaW.PrintWords Go.Proofs.YtcoefbgnajaklaaW.PrintLast Go.Proofs.YtcoefbgnajaklaaW.PrintMore Go.Proofs.Ytcoefbgnajaklaa.Utf Go.Lib Go.Proofs.Ytcoefbgnajaklaa.Fl
set_option linter.unusedVariables false
set_option linter.unusedSimpArgs false
set_option maxRecDepth 100000
/-- A number, from 0 to below n. -/
def uLow (x n : Int) : Int := (x % 18446744073709551616) % n
theorem uLow_b (x n : Int) (h : 0 < n) : 0 ≤ uLow x n ∧ uLow x n < n := by
  unfold uLow
  exact ⟨Int.emod_nonneg _ (by omega), Int.emod_lt_of_pos _ h⟩
theorem low_f (x n : Int) (h : 0 < n) (h1 : n < 4611686018427387904) : gossamerlaw0_Low.f x n = some (uLow x n) := by
  have e1 : IntKind.u64.wrap n = n := by simp only [IntKind.wrap, IntKind.bits, IntKind.signed]; simp; omega
  have e2 : IntKind.u64.wrap x = x % 18446744073709551616 := by simp [IntKind.wrap, IntKind.bits, IntKind.signed]
  have hb := uLow_b x n h
  unfold gossamerlaw0_Low.f
  rw [e1, e2, if_neg (by omega), Int.tmod_eq_emod_of_nonneg (Int.emod_nonneg _ (by omega))]
  show some (wrap64 (uLow x n)) = _
  rw [w64 (by omega) (by omega)]
theorem low_c (x n : Int) (w : World) (h : 0 < n) (h1 : n < 4611686018427387904) :
    Calls Try.prog 24 #[.int .i64 x, .int .i64 n] w fun e w' => e = .returned (.int .i64 (uLow x n)) ∧ Below w.heap.size w w' :=
  (gossamerlaw0_Low.calls x n _ w (low_f x n h h1)).mono fun e w' h => ⟨h.1, h.2.below⟩

theorem bs_append (a b : ByteArray) : bs (a ++ b) = bs a ++ bs b := by
  unfold bs Go.Proofs.YtcoefbgnajaklaaW.PrintWords.bytesOf
  rw [ByteArray.data_append]
  simp
theorem bs_one (s : ByteArray) (k : Nat) (h : k < s.size) : bs (s.extract k (k + 1)) = [((s[k]'h).toNat : Int)] := by
  unfold bs Go.Proofs.YtcoefbgnajaklaaW.PrintWords.bytesOf
  rw [ByteArray.data_extract]
  have h2 : k < s.data.size := h
  have e : (s.data.extract k (k + 1)).toList = [s.data[k]] := by
    rw [Array.toList_extract]
    simp [List.extract, List.take_one, h2]
  rw [e]
  rfl
theorem bs_take_succ (s : ByteArray) (k : Nat) (h : k < s.size) : (bs s).take (k + 1) = (bs s).take k ++ [((s[k]'h).toNat : Int)] := by
  rw [List.take_succ_eq_append_getElem (by rw [bs_len]; exact h)]
  congr 1
  simp only [bs, Go.Proofs.YtcoefbgnajaklaaW.PrintWords.bytesOf, List.getElem_map]
  rfl
theorem no10 : ∀ (n : Nat) (xs : List Int), xs.length ≤ n → Byt xs → 10 ∉ xs → 10 ∉ uDec xs
  | 0, xs, h, _, _ => by
    obtain rfl : xs = [] := List.eq_nil_of_length_eq_zero (by omega)
    simp [decode_nil]
  | n + 1, xs, h, hb, h10 => by
    by_cases e : xs = []
    · subst e; simp [decode_nil]
    · have hn := next_n xs e
      rw [decode_step e]
      intro hm
      rcases List.mem_cons.1 hm with h1 | h1
      · cases hok : (uNext xs).2.2 with
        | false => rw [(hn.2.2.2 hok).1] at h1; cases h1
        | true =>
          have ⟨_, e1, _⟩ := enc_next hb hok
          rw [← h1] at e1
          apply h10
          rw [e1]
          simp [uPt]
      · exact no10 n _ (by simp only [List.length_drop]; omega) (hb.drop _) (fun hx => h10 (List.mem_of_mem_drop hx)) h1
theorem sp_no10 : ∀ (rs : List Int) (p : Nat × Nat), 10 ∉ rs → sp rs p = (p.1, p.2 + rs.length)
  | [], p, _ => rfl
  | r :: rs, p, h => by
    have e : sp (r :: rs) p = sp rs (if r = 10 then (p.1 + 1, 1) else (p.1, p.2 + 1)) := rfl
    have h1 : r ≠ 10 := fun e => h (by rw [e]; exact List.mem_cons_self ..)
    rw [e, if_neg h1, sp_no10 rs _ (fun hx => h (List.mem_cons_of_mem _ hx))]
    simp only [List.length_cons, Prod.mk.injEq, true_and]
    omega
theorem dec_nl (xs : List Int) : uDec (10 :: xs) = 10 :: uDec xs := by
  have := decode_enc (r := 10) ⟨by omega, by omega, by omega⟩ xs
  exact this
set_option maxHeartbeats 2000000 in
theorem spotWidths_walk (s : ByteArray) (m : Int) (w : World) : 
    Calls Try.prog 7 #[.string s, .int .i64 m] w fun e w' => e = .returned (.bool true) ∧ Below w.heap.size w w' := by
  by_cases h1 : 200 < s.size
  · have d1 : decide (200 < s.size) = true := decide_eq_true h1
    go_enter Try.func7, Try.ntmps7
    go_wp2_with fail
    refine (awake3_true w).mono ?_
    rintro e w1 ⟨rfl, hb⟩
    go_wp2_with fail
    go_ret
    exact ⟨rfl, hb⟩
  have d1 : decide (200 < s.size) = false := decide_eq_false h1
  go_enter Try.func7, Try.ntmps7
  go_wp2_with fail
  go_loop [5, 6] (fun t i => ∃ (k : Nat) (x : ByteArray), k ≤ s.size ∧ i = .int .i64 k ∧ t = .string x ∧ x.size ≤ 200 ∧ Hid (bs x = ((bs s).take k).filter (fun c => c != 10))) (fun _ i => s.size - (intOf i).toNat)
  case atStart => exact ⟨0, ByteArray.empty, Nat.zero_le _, rfl, rfl, by simp, Lib.hid rfl⟩
  case round =>
    obtain ⟨k, x, hk, rfl, rfl, hxs, hx⟩ := hrel
    by_cases hlt : k < s.size
    · have dlt : decide ((k : Int) < (s.size : Int)) = true := decide_eq_true (by omega)
      have p0 : (0 : Int) ≤ (k : Int) := by omega
      have p1 : (k : Int) + 1 ≤ (s.size : Int) := by omega
      have p2 : (k : Int) ≤ (k : Int) + 1 := by omega
      have p3 : ((k : Int) + 1).toNat = k + 1 := by omega
      have h1 := Lib.hid (bs_take_succ s k hlt)
      have h2 := Lib.hid (bs_one s k hlt)
      by_cases c : ((s[k]'hlt).toNat : Int) = 10
      · have c1 : (((s[k]'hlt).toNat : Int) != 10) = false := by simp [c]
        have c := Lib.hid c
        go_wp2_with fail
        exact ⟨⟨k + 1, x, by omega, by go_num, rfl, hxs, Lib.hid (by rw [hx.out, h1.out, List.filter_append]; simp [c.out])⟩, by simp [intOf]; omega⟩
      · have c1 : (((s[k]'hlt).toNat : Int) != 10) = true := by simpa using c
        have c := Lib.hid c
        have q1 : ¬ (9223372036854775807 < x.size + (min (k + 1) s.size - k)) := by omega
        have hfl : Hid (bs (x ++ s.extract k (k + 1)) = ((bs s).take (k + 1)).filter (fun c => c != 10)) := Lib.hid (by rw [bs_append, hx.out, h1.out, h2.out, List.filter_append]; simp [c.out])
        have hsz : (x ++ s.extract k (k + 1)).size ≤ 200 := by
          have e1 := bs_len (x ++ s.extract k (k + 1))
          have e2 := List.length_filter_le (fun c => c != 10) ((bs s).take (k + 1))
          rw [← hfl.out, e1, List.length_take, bs_len] at e2
          omega
        go_wp2_with fail
        exact ⟨⟨k + 1, _, by omega, by go_num, rfl, hsz, hfl⟩, by simp [intOf]; omega⟩
    · obtain rfl : k = s.size := by omega
      have h10 : 10 ∉ bs x := by rw [hx.out]; simp
      have hd := no10 _ (bs x) (Nat.le_refl _) (bs_byt x) h10
      clear hx
      have e2 : tot [x] = x.size := by simp [tot]
      have kw := fun (w : World) => wideN_c (some ⟨w.heap.size, 0, none⟩) 1 [x] _ (C_news w 9 (0, 0) [x] (by simp)) (by rw [e2]; omega) (by simp)
      have ew : (wds [x] (0, 0)).1 = (uDec (bs x)).length := (wd_le (uDec (bs x))).1
      have bd := bs_dec x
      have hwd := wds_bd [x] (0, 0)
      rw [e2] at hwd
      clear e2
      have ka := fun w => at_c x (x.size : Int) w (by omega)
      rw [Int.toNat_natCast, bs_take x x.size (Nat.le_refl _), sp_no10 _ _ hd] at ka
      have lc := low_c m 1000
      have b1 := uLow_b m 1000 (by omega)
      obtain ⟨L, hL⟩ : ∃ L : Nat, uLow m 1000 = L := ⟨(uLow m 1000).toNat, by omega⟩
      rw [hL] at lc b1
      clear hL
      have kb := fun w => behind_c 3 (1 + L) x w (by omega) (by omega) (by omega) (by omega)
      rw [sp_no10 _ _ hd] at kb
      have hnl : (⟨#[10]⟩ ++ x : ByteArray).size = 1 + x.size := ByteArray.size_append
      have kn := fun w => behind_c 3 (1 + L) (⟨#[10]⟩ ++ x) w (by omega) (by omega) (by omega) (by omega)
      have e3 : uDec (bs (⟨#[10]⟩ ++ x)) = 10 :: uDec (bs x) := by rw [bs_append]; exact dec_nl (bs x)
      have e4 : sp (10 :: uDec (bs x)) (3, 1 + L) = sp (uDec (bs x)) (4, 1) := rfl
      rw [e3, e4, sp_no10 _ _ hd] at kn
      clear e3
      clear e4
      clear hnl
      simp only at ka kb kn
      generalize wds [x] (0, 0) = q at *
      obtain ⟨q1, q2⟩ := q
      simp only at ew hwd kw
      rw [← ew] at ka kb kn
      clear ew
      clear hd
      clear h10
      have s1 := fun w => add_fx 34 1 q1 (by omega) w
      have s2 := fun w => add_fx 34 (1 + L) q1 (by omega) w
      have o1 := ord_eq 1 (by omega)
      have o3 := ord_eq 3 (by omega)
      have o4 := ord_eq 4 (by omega)
      have o5 := ord_eq (1 + q1) (by omega)
      have o6 := ord_eq (1 + L + q1) (by omega)
      have n1 : floatOfInt .f64 (1 + (L : Int)) = fl (1 + L) := by
        have := nearest_fl (1 + L)
        rw [show ((1 + L : Nat) : Int) = 1 + (L : Int) by omega] at this
        exact this
      have fl4 : fl 4 = 4616189618054758400 := by decide +kernel
      rw [fl_one] at s1 o1
      rw [fl_three] at o3
      rw [fl4] at o4
      simp only [cx, fl_one, fl_three, fl4] at ka kb kn kw
      clear fl4
      have ka := Lib.hid ka
      have kb := Lib.hid kb
      have kn := Lib.hid kn
      have kw := Lib.hid kw
      have lc := Lib.hid lc
      go_wp2_with fail
      refine (kw.out w).mono ?_
      rintro e w1 ⟨rfl, hb1⟩
      have hB1 := below_step (below_alloc (Below.refl _ w) _) hb1
      clear hb1
      go_wp2_with fail
      refine (lc.out w1 (by omega) (by omega)).mono ?_
      rintro e w2 ⟨rfl, hb2⟩
      have hB2 := below_step hB1 hb2
      clear hb2 hB1
      go_wp2_with fail
      refine (ka.out w2).mono ?_
      rintro e w3 ⟨rfl, hb3⟩
      have hB3 := below_step hB2 hb3
      clear hb3 hB2
      go_wp2_with fail
      refine (kb.out w3).mono ?_
      rintro e w4 ⟨rfl, hb4⟩
      have hB4 := below_step hB3 hb4
      clear hb4 hB3
      go_wp2_with fail
      refine (kn.out w4).mono ?_
      rintro e w5 ⟨rfl, hb5⟩
      have hB5 := below_step hB4 hb5
      clear hb5 hB4
      go_wp2_with fail
      refine (awake3_true w5).mono ?_
      rintro e w6 ⟨rfl, hb6⟩
      go_wp2_with fail
      go_ret
      exact ⟨rfl, below_step hB5 hb6⟩
theorem core_SpotWidths (s : ByteArray) (m : Int) (w : World) (_h : s.size ≤ 140737488351232) (_hn : (Lit.int .i64 m).wf = true) : 
    Calls Try.prog 7 #[.string s, .int .i64 m] w fun e w' => e = .returned (.bool true) ∧ Below w.heap.size w w' := spotWidths_walk s m w

end Go.Proofs.Ytcoefbgnajaklaa.LinkUtfTells
