/- The width of texts (spot.Wide), and texts as numbers of 16 bits by the document. Conditions: at most 1000000 texts of 1000000 bytes together. -/
import Derived.Test.YtcoefbgnajaklaaSR
import Derived.Test.YtcoefbgnajaklaaFl
import Derived.Lib.Hide
import Derived.Lib.ConvBytes
import Derived.Laws.ComplexArith
import Derived.Laws.FloatArith
import Derived.Laws.Cover2
import Derived.Laws.Cover3
namespace Go.Proofs.Ytcoefbgnajaklaa.LinkUtfTells
open Go Go.RowKit Go.Proofs.Ytcoefbgnajaklaa Go.Proofs.Ytcoefbgnajaklaa.PUtfTells Go.Proofs.YtcoefbgnajaklaaW.PrintWords Go.Proofs.YtcoefbgnajaklaaW.PrintLast Go.Proofs.YtcoefbgnajaklaaW.PrintMore Go.Proofs.Ytcoefbgnajaklaa.Utf Go.Lib Go.Proofs.Ytcoefbgnajaklaa.Fl
set_option linter.unusedVariables false
set_option linter.unusedSimpArgs false
set_option maxRecDepth 100000
/-- How wide code points are: how many, how many units. -/
def wd (rs : List Int) (p : Nat × Nat) : Nat × Nat := rs.foldl (fun p r => (p.1 + 1, p.2 + if 65535 < r then 2 else 1)) p
theorem wd_snoc (rs : List Int) (r : Int) (p : Nat × Nat) : wd (rs ++ [r]) p = ((wd rs p).1 + 1, (wd rs p).2 + if 65535 < r then 2 else 1) := by simp [wd]
theorem wd_eq (rs : List Int) (p : Nat × Nat) : wd rs p = (p.1 + (wd rs (0, 0)).1, p.2 + (wd rs (0, 0)).2) := by
  induction rs generalizing p with
  | nil => simp [wd]
  | cons r rs ih =>
    have e : ∀ q, wd (r :: rs) q = wd rs (q.1 + 1, q.2 + if 65535 < r then 2 else 1) := fun q => rfl
    rw [e p, e (0, 0), ih (p.1 + 1, _), ih ((0, 0).1 + 1, _)]
    simp only [Prod.mk.injEq]
    omega
theorem wd_append (a b : List Int) (p : Nat × Nat) : wd (a ++ b) p = wd b (wd a p) := by simp [wd]
theorem wd_le (rs : List Int) : (wd rs (0, 0)).1 = rs.length ∧ rs.length ≤ (wd rs (0, 0)).2 ∧ (wd rs (0, 0)).2 ≤ 2 * rs.length := by
  induction rs with
  | nil => simp [wd]
  | cons r rs ih =>
    have e : wd (r :: rs) (0, 0) = wd rs (0 + 1, 0 + if 65535 < r then 2 else 1) := rfl
    rw [e, wd_eq]
    simp only [List.length_cons]
    split <;> omega
theorem wd_bd (rs : List Int) (p : Nat × Nat) : (wd rs p).1 ≤ p.1 + rs.length ∧ (wd rs p).2 ≤ p.2 + 2 * rs.length := by
  rw [wd_eq]; have := wd_le rs; simp only; omega
def wds (ss : List ByteArray) (p : Nat × Nat) : Nat × Nat := ss.foldl (fun p s => wd (uDec (bs s)) p) p
def tot (ss : List ByteArray) : Nat := (ss.map ByteArray.size).sum
theorem wds_snoc (ss : List ByteArray) (s : ByteArray) (p : Nat × Nat) : wds (ss ++ [s]) p = wd (uDec (bs s)) (wds ss p) := by simp [wds]
theorem tot_snoc (ss : List ByteArray) (s : ByteArray) : tot (ss ++ [s]) = tot ss + s.size := by simp [tot]
theorem tot_append (a b : List ByteArray) : tot (a ++ b) = tot a + tot b := by simp [tot]
theorem wds_bd (ss : List ByteArray) (p : Nat × Nat) : (wds ss p).1 ≤ p.1 + tot ss ∧ (wds ss p).2 ≤ p.2 + 2 * tot ss := by
  induction ss generalizing p with
  | nil => simp [wds]
  | cons s ss ih =>
    have e : wds (s :: ss) p = wds ss (wd (uDec (bs s)) p) := rfl
    have e2 : tot (s :: ss) = s.size + tot ss := by simp [tot]
    have := ih (wd (uDec (bs s)) p)
    have h2 := wd_bd (uDec (bs s)) p
    have h3 := bs_dec s
    rw [e, e2]
    omega
theorem take_snoc_s (ss : List ByteArray) (k : Nat) (h : k < ss.length) : ss.take (k + 1) = ss.take k ++ [ss[k]] := List.take_succ_eq_append_getElem h
theorem tot_take (ss : List ByteArray) (k : Nat) : tot (ss.take k) ≤ tot ss := by
  conv => rhs; rw [← List.take_append_drop k ss, tot_append]
  omega
theorem rdOf_get (ss : List ByteArray) (k : Nat) (h : k < ss.length) : rdOf ByteArray.empty ss (k : Int) = ss[k] := by
  unfold rdOf; simp [h]

set_option maxHeartbeats 2000000 in
theorem wideN_c (A : Option Addr) (c : Nat) (ss : List ByteArray) (w : World) (hC : Kd.string.C w A ss.length ss) (ht : tot ss ≤ 1000000) (hn : ss.length ≤ 1000000) :
    Calls Try.prog 18 #[.slice A ss.length c] w fun e w' => e = .returned (cx (wds ss (0, 0)).1 (wds ss (0, 0)).2) ∧ Below w.heap.size w w' := by
  have kc := fun (w : World) (s : ByteArray) => print_bytes (P := Try.prog) 9 37 5 Try.underlying9 Try.underlying37 Try.underlying5 s w
  have h0 : Value.complex .f64 0 0 = cx (wds (ss.take 0) (0, 0)).1 (wds (ss.take 0) (0, 0)).2 := by simp [wds, cx, fl_zero]
  have h0 := Lib.hid h0
  go_enter Try.func18, Try.ntmps18
  go_wp2_with fail
  go_loopw [3, 5, 7, 10] (fun p _ _ i w' => ∃ k : Nat, k ≤ ss.length ∧ i = .int .i64 k ∧ p = cx (wds (ss.take k) (0, 0)).1 (wds (ss.take k) (0, 0)).2 ∧ Aside0 (Below w.heap.size w w')) (fun _ _ _ i _ => ss.length - (intOf i).toNat)
  case atStart => exact ⟨0, Nat.zero_le _, rfl, h0.out, ⟨Below.refl _ _⟩⟩
  case round =>
    obtain ⟨k, hk, rfl, rfl, hb⟩ := hrel
    by_cases hlt : k < ss.length
    · have hC' := Kd.C_below hC hb.out
      obtain ⟨ad, hA, hcell⟩ := Kd.at_string hC' (k : Int) (by omega) (by omega)
      rw [rdOf_get ss k hlt, Int.toNat_natCast] at hcell
      cases hA
      have hsn := take_snoc_s ss k hlt
      have hw := wds_snoc (ss.take k) ss[k] (0, 0)
      rw [← hsn] at hw
      have htk := tot_take ss (k + 1)
      rw [hsn, tot_snoc] at htk
      have hbd := wds_bd (ss.take k) (0, 0)
      clear hsn
      generalize ss[k] = s at *
      generalize wds (ss.take k) (0, 0) = q at *
      obtain ⟨q1, q2⟩ := q
      simp only at hbd
      have ld := bs_dec s
      have hbb := bs_byt s
      have hl := bs_len s
      generalize hds : uDec (bs s) = ds at ld hw
      have hds := Lib.hid hds
      have hw := Lib.hid hw
      have dlt : decide ((k : Int) < (ss.length : Int)) = true := decide_eq_true (by omega)
      go_wp2_with fail
      have k1 := decode_c (some ⟨wr.heap.size, 0, none⟩) (grownCap wr s.size 0 5) (bs s) (bytesWorld wr 5 s) (bs_C wr s (by omega)) (by rw [hl]; exact grownCap_ge _ _ _ _) hbb (by omega)
      rw [hl, hds.out] at k1
      refine k1.mono ?_
      clear k1
      rintro e w1 ⟨v1, rfl, ho1, hb1'⟩
      obtain ⟨A1, c1, rfl, hl1, hd1⟩ := Kd.R_reads ho1
      have hB1 := Aside0.mk (below_step hb.out (below_step (bs_below wr s) hb1'))
      clear ho1 hb1' hl hbb hcell hb hC'
      go_wp2_with fail
      go_loop [3, 7, 18] (fun p _ i => ∃ j : Nat, j ≤ ds.length ∧ i = .int .i64 j ∧ p = cx (wd (ds.take j) (q1, q2)).1 (wd (ds.take j) (q1, q2)).2) (fun _ _ i => ds.length - (intOf i).toNat)
      case atStart => exact ⟨0, Nat.zero_le _, rfl, rfl⟩
      case round =>
        obtain ⟨j, hj, rfl, rfl⟩ := hrel
        by_cases hjl : j < ds.length
        · obtain ⟨ad2, hA2, hcell2⟩ := Kd.at_int hd1 (j : Int) (by omega) (by omega)
          rw [Int.toNat_natCast] at hcell2
          cases hA2
          have hsn := wd_snoc (ds.take j) (rd ds (j : Int)) (q1, q2)
          rw [← take_snoc ds j hjl] at hsn
          have hb2 := wd_bd (ds.take j) (q1, q2)
          rw [List.length_take, Nat.min_eq_left hj] at hb2
          generalize rd ds (j : Int) = r at *
          generalize wd (ds.take j) (q1, q2) = z at *
          obtain ⟨z1, z2⟩ := z
          simp only at hb2
          have hsn := Lib.hid hsn
          have djl : decide ((j : Int) < (ds.length : Int)) = true := decide_eq_true (by omega)
          have s1 := fun w => add_cx 26 z1 z2 1 (if 65535 < r then 2 else 1) (by omega) (by split <;> omega) w
          go_wp2_with (go_at_call 39; refine (wide_c r _).mono ?_; rintro e w2 ⟨rfl, rfl⟩)
          exact ⟨⟨j + 1, by omega, by go_num, by rw [hsn.out]⟩, by simp [intOf]; omega⟩
        · obtain rfl : j = ds.length := by omega
          rw [List.take_length]
          go_wp2_with fail
          go_roundw
          case rel =>
            refine ⟨_, _, _, _, ?_, rfl, rfl, rfl, rfl⟩
            exact ⟨k + 1, by omega, by go_num, by rw [hw.out]⟩
          case measure => simp [intOf]; omega
    · obtain rfl : k = ss.length := by omega
      rw [List.take_length]
      go_wp2
      go_ret
      exact ⟨by simp, hb.out⟩

/-- A code point as numbers of 16 bits. -/
def un (r : Int) : List Int := if 65535 < r then [55296 + (r - 65536) / 1024, 56320 + (r - 65536) % 1024] else [r]
def uns (rs : List Int) : List Int := rs.flatMap un
theorem uns_snoc (rs : List Int) (r : Int) : uns (rs ++ [r]) = uns rs ++ un r := by simp [uns]
theorem un_len (r : Int) : (un r).length ≤ 2 ∧ 1 ≤ (un r).length := by unfold un; split <;> simp
theorem uns_len (rs : List Int) : (uns rs).length ≤ 2 * rs.length := by
  induction rs with
  | nil => simp [uns]
  | cons r rs ih =>
    have e : uns (r :: rs) = un r ++ uns rs := rfl
    have := un_len r
    rw [e]; simp only [List.length_append, List.length_cons]; omega
theorem info67 : (Try.prog.info? 67).map (fun i => (i.zero, i.size, i.bytes)) = some (some (.int .u16 0), 1, 2) := by kernel_rfl
set_option maxHeartbeats 1000000 in
theorem runits_c (s : ByteArray) (w : World) (hs : s.size ≤ 1000000) :
    Calls Try.prog 38 #[.string s] w fun e w' => ∃ v, e = .returned v ∧ (∃ b, Kd.R (Kd.int .u16) 67 w' b (fun k => b ≤ k) v (uns (uDec (bs s)))) ∧ Below w.heap.size w w' := by
  have kc := fun (w : World) (s : ByteArray) => print_bytes (P := Try.prog) 9 37 5 Try.underlying9 Try.underlying37 Try.underlying5 s w
  have ld := bs_dec s
  have hbb := bs_byt s
  have hl := bs_len s
  have sc := decode_scals hbb
  generalize hds : uDec (bs s) = ds at ld sc ⊢
  have hds := Lib.hid hds
  go_enter Try.func38, Try.ntmps38
  go_wp2_with fail
  have k1 := rdecode_c (some ⟨w.heap.size, 0, none⟩) (grownCap w s.size 0 5) (bs s) (bytesWorld w 5 s) (bs_C w s (by omega)) (by rw [hl]; exact grownCap_ge _ _ _ _) hbb (by omega)
  rw [hl, hds.out] at k1
  refine k1.mono ?_
  clear k1
  rintro e w1 ⟨v1, rfl, ho1, hb1'⟩
  obtain ⟨A1, c1, rfl, hl1, hd1⟩ := Kd.R_reads ho1
  have hB1 := Aside0.mk (below_step (bs_below w s) hb1')
  clear ho1 hb1' hl hbb
  go_wp2_with fail
  go_loopw [3, 5, 6] (fun u i _ w' => ∃ (k : Nat) (v : Value), v = u ∧ k ≤ ds.length ∧ i = .int .i64 k ∧ Aside0 (Kd.R (Kd.int .u16) 67 w' w1.heap.size (fun k => w1.heap.size ≤ k) v (uns (ds.take k))) ∧ Aside0 (Below w1.heap.size w1 w')) (fun _ i _ _ => ds.length - (intOf i).toNat)
  case atStart => exact ⟨0, _, rfl, Nat.zero_le _, rfl, ⟨Kd.R_nil _ _ _ _ _⟩, ⟨Below.refl _ _⟩⟩
  case round =>
    obtain ⟨k, v, rfl, hk, rfl, ho, hb⟩ := hrel
    by_cases hlt : k < ds.length
    · have hd2 := Kd.C_below hd1 hb.out
      obtain ⟨ad, hA, hcell⟩ := Kd.at_int hd2 (k : Int) (by omega) (by omega)
      rw [Int.toNat_natCast] at hcell
      cases hA
      have hsn := uns_snoc (ds.take k) (rd ds (k : Int))
      rw [← take_snoc ds k hlt] at hsn
      have hm := sc (rd ds (k : Int)) (by unfold rd; simp [hlt])
      have hr0 : 0 ≤ rd ds (k : Int) := hm.1
      have hr1 : rd ds (k : Int) ≤ 1114111 := hm.2.1
      have hul := uns_len (ds.take k)
      rw [List.length_take, Nat.min_eq_left hk] at hul
      clear hd2 hm
      generalize rd ds (k : Int) = r at *
      have dlt : decide ((k : Int) < (ds.length : Int)) = true := decide_eq_true (by omega)
      have hz := hb.out.size
      by_cases c : 65535 < r
      · have d : decide (65535 < r) = true := decide_eq_true c
        have hu : un r = [55296 + (r - 65536) / 1024, 56320 + (r - 65536) % 1024] := by unfold un; rw [if_pos c]
        rw [hu] at hsn
        have hsn := Lib.hid hsn
        clear hu
        have hand : bits .and .i32 (r - 65536) 1023 = (r - 65536) % 1024 := bits_mask .i32 31 (by decide) wraps_i32 10 (by decide) (r - 65536) (by omega) (by omega)
        have hm0 : 0 ≤ (r - 65536) % 1024 := by omega
        have hm1 : (r - 65536) % 1024 < 1024 := by omega
        go_wp2_with ((at_builtin; (refine Kd.R_append_row (Value.int .u16) 0 (h1 := fun _ => rfl) (w0 := w1) (w1).heap.size rfl _ _ 56 67 (.int .u16 0) 2 rfl Try.underlying56 info67 rfl (by decide) v (uns (ds.take k)) [55296 + (r - 65536) / 1024, 56320 + (r - 65536) % 1024] (some ⟨wr.heap.size, 0, none⟩) ([55296 + (r - 65536) / 1024, 56320 + (r - 65536) % 1024] : List Int).length 2 (fun k => w1.heap.size ≤ k) rfl rfl ?aF ?aO ?aR ?aB ?aS ?aL ?_; (case aF => intro q hq; simp at hq; omega); (case aO => exact Kd.R_below ho.out (below_alloc (Below.refl _ _) _)); (case aR => exact C_new .u16 wr 67 (0, 0) [55296 + (r - 65536) / 1024, 56320 + (r - 65536) % 1024] (by simp)); (case aB => exact below_alloc hb.out _); (case aS => simp; omega); (case aL => simp; omega); intro v3 w3 ho3 hb3 hg3 hat3)))
        exact ⟨⟨k + 1, _, rfl, by omega, by go_num, ⟨by rw [hsn.out]; exact ho3⟩, ⟨hb3⟩⟩, by simp [intOf]; omega⟩
      · have d : decide (65535 < r) = false := decide_eq_false c
        have hu : un r = [r] := by unfold un; rw [if_neg c]
        rw [hu] at hsn
        have hsn := Lib.hid hsn
        clear hu
        go_wp2_with ((at_builtin; (refine Kd.R_append_row (Value.int .u16) 0 (h1 := fun _ => rfl) (w0 := w1) (w1).heap.size rfl _ _ 56 67 (.int .u16 0) 2 rfl Try.underlying56 info67 rfl (by decide) v (uns (ds.take k)) [r] (some ⟨wr.heap.size, 0, none⟩) ([r] : List Int).length 1 (fun k => w1.heap.size ≤ k) rfl rfl ?aF ?aO ?aR ?aB ?aS ?aL ?_; (case aF => intro q hq; simp at hq; omega); (case aO => exact Kd.R_below ho.out (below_alloc (Below.refl _ _) _)); (case aR => exact C_new .u16 wr 67 (0, 0) [r] (by simp)); (case aB => exact below_alloc hb.out _); (case aS => simp; omega); (case aL => simp; omega); intro v3 w3 ho3 hb3 hg3 hat3)))
        exact ⟨⟨k + 1, _, rfl, by omega, by go_num, ⟨by rw [hsn.out]; exact ho3⟩, ⟨hb3⟩⟩, by simp [intOf]; omega⟩
    · obtain rfl : k = ds.length := by omega
      rw [List.take_length] at ho
      go_wp2
      go_ret
      exact ⟨_, by simp, ⟨_, ho.out⟩, below_step hB1.out hb.out⟩


end Go.Proofs.Ytcoefbgnajaklaa.LinkUtfTells
