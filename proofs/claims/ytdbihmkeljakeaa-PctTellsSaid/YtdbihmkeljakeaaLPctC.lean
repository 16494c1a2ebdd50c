/- Lemmas of the session on the law PctTells. -/
import Derived.Test.YtdbihmkeljakeaaLPctTells
import Derived.Test.YtdbihmkeljakeaaLPctB
import Derived.Test.YtdbihmkeljakeaaSh
import Derived.Lib.Hide
namespace Go.Proofs.Ytdbihmkeljakeaa.LinkPctTells
open Go Go.RowKit Go.Proofs.Ytdbihmkeljakeaa Go.Proofs.Ytdbihmkeljakeaa.PPctTells Go.Proofs.YtdbihmkeljakeaaW.PrintWords Go.Proofs.YtdbihmkeljakeaaW.PrintLast Go.Proofs.YtdbihmkeljakeaaW.PrintMore Go.Proofs.Ytdbihmkeljakeaa.Utf Go.Lib
set_option linter.unusedVariables false
set_option linter.unusedSimpArgs false
set_option maxRecDepth 100000
theorem ptake_snoc (xs : List Int) (k : Nat) (h : k < xs.length) : xs.take (k + 1) = xs.take k ++ [rd xs (k : Int)] := by
  rw [List.take_succ_eq_append_getElem h]
  simp [rd, h]
set_option maxHeartbeats 4000000 in
theorem pencode_c (s : ByteArray) (set : Int) (w : World) (hs : s.size ≤ 1000000) :
    Calls Try.prog 14 #[.string s, .int .i64 set] w fun e w' => e = .returned (.string (strOfNums (pe set (uDec (bs s))))) ∧ Below w.heap.size w w' := by
  have kc := fun (w : World) (s : ByteArray) => print_bytes (P := Try.prog) 9 27 5 Try.underlying9 Try.underlying27 Try.underlying5 s w
  have ld := decode_len _ (bs s) (Nat.le_refl _)
  have hbb := bs_byt s
  have hl := bs_len s
  rw [hl] at ld
  have h32 := decode_r32 hbb
  generalize hds : uDec (bs s) = ds at ld h32 ⊢
  have hds := Lib.hid hds
  have hB0 := Bq.fresh (fun _ => False) w w.heap.size (Nat.le_refl _)
  have hsz0 : (w.alloc (.cells #[.pointer none, .slice none 0 0] 47)).heap.size = w.heap.size + 1 := by simp
  have hC := bs_C (w.alloc (.cells #[.pointer none, .slice none 0 0] 47)) s (by omega)
  have hBw := bs_below (w.alloc (.cells #[.pointer none, .slice none 0 0] 47)) s
  have hBa : Below w.heap.size w (w.alloc (.cells #[.pointer none, .slice none 0 0] 47)) := below_alloc (Below.refl _ _) _
  rw [hsz0] at hC
  have hsz0 := Lib.hid hsz0
  go_enter Try.func14, Try.ntmps14
  go_wp2_with fail
  have k1 := decode_c _ (grownCap (w.alloc (.cells #[.pointer none, .slice none 0 0] 47)) s.size 0 5) (bs s) _ hC (by rw [hl]; exact grownCap_ge _ _ _ _) hbb (by omega)
  rw [hl, hds.out] at k1
  refine k1.mono ?_
  clear k1
  rintro e w1 ⟨v1, rfl, ho1, hb1'⟩
  have hb1 := below_step hBw hb1'
  have hBt := Aside0.mk (below_step hBa hb1)
  have hq0 := (hB0.more hb1).sub (q' := fun k => w.heap.size + 1 ≤ k ∧ k < w1.heap.size) (fun k hk => .inr (by rw [hsz0.out]; exact hk.1))
  have hls : w.heap.size + 1 ≤ w1.heap.size := by have := hb1.size; rw [hsz0.out] at this; exact this
  obtain ⟨A1, c1, rfl, hl1, -⟩ := Kd.R_reads ho1
  have hf0 := Kd.F_mono (Kd.R_F (Kd.R_bound ho1)) (ok' := fun k => w.heap.size + 1 ≤ k ∧ k < w1.heap.size) (fun k hk => ⟨by have := hk.2.1; have h2 := hBw.size; rw [hsz0.out] at h2; omega, hk.2.2.1⟩)
  have hq0 := Aside0.mk hq0
  have hf0 := Aside0.mk hf0
  clear ho1 hb1' hC hBw hB0 hb1 hbb hl kc hBa hsz0
  generalize hn1 : w1.heap.size = n1 at hq0 hf0 hls
  have hn1 := Lib.hid hn1
  have hls := Lib.hid hls
  go_wp2_with fail
  go_loopw [15] (fun i w' => ∃ k : Nat, k ≤ ds.length ∧ i = .int .i64 k ∧ Aside0 (Bq (fun k => w.heap.size + 1 ≤ k ∧ k < n1) w.heap.size w.heap.size ((pe set (ds.take k)).map (Value.int .u8)) w') ∧ Aside0 (Kd.F (Kd.int .i32) w' (fun k => w.heap.size + 1 ≤ k ∧ k < n1) A1 ds.length ds) ∧ Aside0 (Below w.heap.size w w') ∧ Aside0 (n1 ≤ w'.heap.size)) (fun i _ => ds.length - (RowKit.intOf i).toNat)
  case atStart => exact ⟨0, Nat.zero_le _, rfl, hq0, hf0, hBt, ⟨by rw [hn1.out]; exact Nat.le_refl _⟩⟩
  case round =>
    clear hq0 hf0 hBt
    obtain ⟨w', hw'⟩ : ∃ x, x = wr := ⟨_, rfl⟩
    subst hw'
    obtain ⟨k, hk, rfl, hq, hf, hb, hsz⟩ := hrel
    by_cases hlt : k < ds.length
    · have hsn := pe_take set ds k hlt
      have hln := pe_len set (ds.take k)
      rw [List.length_take, Nat.min_eq_left hk] at hln
      obtain ⟨ad, hA, hcell⟩ := Kd.at_int (Kd.F_now hf.out) (k : Int) (by omega) (by omega)
      rw [Int.toNat_natCast] at hcell
      cases hA
      have hr32 : -2147483648 ≤ rd ds (k : Int) ∧ rd ds (k : Int) < 2147483648 := h32 _ (by unfold rd; simp [hlt])
      generalize rd ds (k : Int) = r at *
      generalize pe set (ds.take k) = acc at *
      have hsn := Lib.hid hsn
      have dlt : decide ((k : Int) < (ds.length : Int)) = true := decide_eq_true (by omega)
      go_wp2_with fail
      refine (in_c set r w' hr32.1 hr32.2).mono ?_
      rintro e w2 ⟨rfl, hb2⟩
      go_wp2_with fail
      have k2 := encode_c (some ⟨w2.heap.size, 0, none⟩) 1 [r] _ (C_new .i32 w2 21 (0, 0) [r] (by simp)) (by simp) (fun x hx => by simp only [List.mem_singleton] at hx; subst hx; exact hr32) (by simp)
      refine k2.mono ?_
      clear k2
      rintro e w3 ⟨v3, rfl, ho3, hb3⟩
      obtain ⟨A3, c3, rfl, hl3, -⟩ := Kd.R_reads ho3
      have hb23 := below_step hb2 (below_step (below_alloc (Below.refl w2.heap.size w2) _) hb3)
      have hsz3 := hb23.size
      have hbs := (below_alloc (Below.refl w2.heap.size w2) (.cells ([r].map (Value.int .i32)).toArray 21 (0, 0))).size
      have hsz2 := hb2.size
      have hq3 := (hq.out.more hb23).sub (q' := fun k => (w.heap.size + 1 ≤ k ∧ k < n1) ∨ (w'.heap.size ≤ k ∧ k < w3.heap.size)) (fun k hk => hk.elim .inl (fun h => .inr h.1))
      have hf3 := Kd.F_below hf.out hb23
      have hg3 := Kd.F_mono (Kd.R_F (Kd.R_bound ho3)) (ok' := fun k => (w.heap.size + 1 ≤ k ∧ k < n1) ∨ (w'.heap.size ≤ k ∧ k < w3.heap.size)) (fun k hk => .inr ⟨by have := hk.2.1; omega, hk.2.2.1⟩)
      have hbt3 := Aside0.mk (below_step hb.out hb23)
      have hl4 := enc1_len r
      have hcb := encode_byt [r]
      have hph : ph set r = if pin set r = true then (uEnc [r]).flatMap hexE else uEnc [r] := rfl
      have hsz := hsz.out
      have hn2 : n1 ≤ w'.heap.size := hsz
      generalize uEnc [r] = cs at *
      generalize w'.heap.size = n2 at *
      have hq3 := Aside0.mk hq3
      have hf3 := Aside0.mk hf3
      have hg3 := Aside0.mk hg3
      have hls2 := hls.out
      clear hq hf hb hb23 hb3 ho3 hbs hb2 hsz
      generalize hn3 : w3.heap.size = n3 at *
      have hn3 := Lib.hid hn3
      by_cases hin : pin set r = true
      · rw [if_pos hin] at hph
        have hph := Lib.hid hph
        rw [hin]
        clear hin
        go_wp2_with fail
        go_loopw [26] (fun j W => ∃ m : Nat, m ≤ cs.length ∧ j = .int .i64 m ∧ Aside0 (Bq (fun k => (w.heap.size + 1 ≤ k ∧ k < n1) ∨ (n2 ≤ k ∧ k < n3)) w.heap.size w.heap.size ((acc ++ (cs.take m).flatMap hexE).map (Value.int .u8)) W) ∧ Aside0 (Kd.F (Kd.int .i32) W (fun k => w.heap.size + 1 ≤ k ∧ k < n1) (some ad) ds.length ds) ∧ Aside0 (Kd.F (Kd.int .u8) W (fun k => (w.heap.size + 1 ≤ k ∧ k < n1) ∨ (n2 ≤ k ∧ k < n3)) A3 cs.length cs) ∧ Aside0 (Below w.heap.size w W) ∧ Aside0 (n3 ≤ W.heap.size)) (fun j _ => cs.length - (RowKit.intOf j).toNat)
        case atStart => exact ⟨0, Nat.zero_le _, rfl, by simpa using hq3, hf3, hg3, hbt3, ⟨by rw [hn3.out]; exact Nat.le_refl _⟩⟩
        case round =>
          clear hq3 hf3 hg3 hbt3
          obtain ⟨W, hW⟩ : ∃ x, x = wr := ⟨_, rfl⟩
          subst hW
          obtain ⟨m, hm, rfl, hq, hf, hg, hb, hsz⟩ := hrel
          by_cases hlt2 : m < cs.length
          · have hsz := hsz.out
            obtain ⟨ad3, hA3, hcell⟩ := Kd.at_int (Kd.F_now hg.out) (m : Int) (by omega) (by omega)
            rw [Int.toNat_natCast] at hcell
            cases hA3
            have hc8 := rd_byt hcb m hlt2
            have hsn2 := flat_take (f := hexE) cs m hlt2
            have hln2 := flat_len hexE 3 (cs.take m) (fun x _ => by simp [hexE])
            rw [List.length_take, Nat.min_eq_left hm] at hln2
            generalize (cs.take m).flatMap hexE = ac2 at *
            generalize rd cs (m : Int) = c at *
            have hsn2 := Lib.hid hsn2
            have dlt2 : decide ((m : Int) < (cs.length : Int)) = true := decide_eq_true (by omega)
            have hbsz := hb.out.size
            have p1 : 0 ≤ c / 16 := by omega
            have q1 : c / 16 < 16 := by omega
            have p2 : 0 ≤ c % 16 := by omega
            have q2 : c % 16 < 16 := by omega
            have p1 := eq_true p1
            have q1 := eq_true q1
            have p2 := eq_true p2
            have q2 := eq_true q2
            have x1 := bt_at HX (c / 16)
            have x2 := bt_at HX (c % 16)
            go_wp2_with fail
            refine (writebyte_q (fun k => (w.heap.size + 1 ≤ k ∧ k < n1) ∨ (n2 ≤ k ∧ k < n3)) w.heap.size w.heap.size _ 37 W hq.out (fun k hk => by constructor <;> omega) (by simp; omega) hbsz).mono ?_
            rintro e w4 ⟨rfl, hq4, hb4, hk4⟩
            have hsz4 := hk4.1
            go_wp2_with fail
            refine (writebyte_q (fun k => (w.heap.size + 1 ≤ k ∧ k < n1) ∨ (n2 ≤ k ∧ k < n3)) w.heap.size w.heap.size _ (bt HX (c / 16)) w4 hq4 (fun k hk => by constructor <;> omega) (by simp; omega) (by omega)).mono ?_
            rintro e w5 ⟨rfl, hq5, hb5, hk5⟩
            have hsz5 := hk5.1
            go_wp2_with fail
            refine (writebyte_q (fun k => (w.heap.size + 1 ≤ k ∧ k < n1) ∨ (n2 ≤ k ∧ k < n3)) w.heap.size w.heap.size _ (bt HX (c % 16)) w5 hq5 (fun k hk => by constructor <;> omega) (by simp; omega) (by omega)).mono ?_
            rintro e w6 ⟨rfl, hq6, hb6, hk6⟩
            have hsz6 := hk6.1
            go_wp2
            refine ⟨⟨m + 1, by omega, by go_num, ⟨?_⟩, ⟨Kd.F_kept (Kd.F_kept (Kd.F_kept hf.out hk4 (fun k hk hn => hn (.inl hk))) hk5 (fun k hk hn => hn (.inl hk))) hk6 (fun k hk hn => hn (.inl hk))⟩, ⟨Kd.F_kept (Kd.F_kept (Kd.F_kept hg.out hk4 (fun k hk hn => hn hk)) hk5 (fun k hk hn => hn hk)) hk6 (fun k hk hn => hn hk)⟩, ⟨((hb.out.trans hb4).trans hb5).trans hb6⟩, ⟨by omega⟩⟩, by simp [RowKit.intOf]; omega⟩
            rw [hsn2.out]
            simpa [hexE] using hq6
          · have hsz := hsz.out
            have e : cs.take m = cs := List.take_of_length_le (by omega)
            rw [e] at hq
            rw [← hph.out, ← hsn.out] at hq
            clear e
            have dlt2 : decide ((m : Int) < (cs.length : Int)) = false := decide_eq_false (by omega)
            go_wp2
            exact ⟨⟨k + 1, by omega, by go_num, ⟨hq.out.sub (fun _ h => .inl h)⟩, ⟨hf.out⟩, ⟨hb.out⟩, ⟨by omega⟩⟩, by simp [RowKit.intOf]; omega⟩
      · rw [if_neg hin] at hph
        have hin : pin set r = false := by simpa using hin
        have hph := Lib.hid hph
        rw [hin]
        clear hin
        go_wp2_with fail
        go_loopw [26] (fun j W => ∃ m : Nat, m ≤ cs.length ∧ j = .int .i64 m ∧ Aside0 (Bq (fun k => (w.heap.size + 1 ≤ k ∧ k < n1) ∨ (n2 ≤ k ∧ k < n3)) w.heap.size w.heap.size ((acc ++ cs.take m).map (Value.int .u8)) W) ∧ Aside0 (Kd.F (Kd.int .i32) W (fun k => w.heap.size + 1 ≤ k ∧ k < n1) (some ad) ds.length ds) ∧ Aside0 (Kd.F (Kd.int .u8) W (fun k => (w.heap.size + 1 ≤ k ∧ k < n1) ∨ (n2 ≤ k ∧ k < n3)) A3 cs.length cs) ∧ Aside0 (Below w.heap.size w W) ∧ Aside0 (n3 ≤ W.heap.size)) (fun j _ => cs.length - (RowKit.intOf j).toNat)
        case atStart => exact ⟨0, Nat.zero_le _, rfl, by simpa using hq3, hf3, hg3, hbt3, ⟨by rw [hn3.out]; exact Nat.le_refl _⟩⟩
        case round =>
          clear hq3 hf3 hg3 hbt3
          obtain ⟨W, hW⟩ : ∃ x, x = wr := ⟨_, rfl⟩
          subst hW
          obtain ⟨m, hm, rfl, hq, hf, hg, hb, hsz⟩ := hrel
          by_cases hlt2 : m < cs.length
          · have hsz := hsz.out
            obtain ⟨ad3, hA3, hcell⟩ := Kd.at_int (Kd.F_now hg.out) (m : Int) (by omega) (by omega)
            rw [Int.toNat_natCast] at hcell
            cases hA3
            have hc8 := rd_byt hcb m hlt2
            have hsn2 := ptake_snoc cs m hlt2
            have hln2 : (cs.take m).length ≤ 4 := by rw [List.length_take]; omega
            generalize cs.take m = ac2 at *
            generalize rd cs (m : Int) = c at *
            have hsn2 := Lib.hid hsn2
            have dlt2 : decide ((m : Int) < (cs.length : Int)) = true := decide_eq_true (by omega)
            have hbsz := hb.out.size
            go_wp2_with fail
            refine (writebyte_q (fun k => (w.heap.size + 1 ≤ k ∧ k < n1) ∨ (n2 ≤ k ∧ k < n3)) w.heap.size w.heap.size _ c W hq.out (fun k hk => by constructor <;> omega) (by simp; omega) hbsz).mono ?_
            rintro e w4 ⟨rfl, hq4, hb4, hk4⟩
            have hsz4 := hk4.1
            go_wp2
            refine ⟨⟨m + 1, by omega, by go_num, ⟨?_⟩, ⟨Kd.F_kept hf.out hk4 (fun k hk hn => hn (.inl hk))⟩, ⟨Kd.F_kept hg.out hk4 (fun k hk hn => hn hk)⟩, ⟨hb.out.trans hb4⟩, ⟨by omega⟩⟩, by simp [RowKit.intOf]; omega⟩
            rw [hsn2.out]
            simpa using hq4
          · have hsz := hsz.out
            have e : cs.take m = cs := List.take_of_length_le (by omega)
            rw [e] at hq
            rw [← hph.out, ← hsn.out] at hq
            clear e
            have dlt2 : decide ((m : Int) < (cs.length : Int)) = false := decide_eq_false (by omega)
            go_wp2
            exact ⟨⟨k + 1, by omega, by go_num, ⟨hq.out.sub (fun _ h => .inl h)⟩, ⟨hf.out⟩, ⟨hb.out⟩, ⟨by omega⟩⟩, by simp [RowKit.intOf]; omega⟩
    · have dlt : decide ((k : Int) < (ds.length : Int)) = false := decide_eq_false (by omega)
      have e : ds.take k = ds := List.take_of_length_le (by omega)
      rw [e] at hq
      clear e
      have hbyt := pe_byt set ds
      rw [nums_cells _ hbyt] at hq
      go_wp2_with fail
      refine (Try.Builder_String_any w.heap.size w.heap.size _ w' hq.out.is hb.out.size).mono ?_
      rintro e w2 ⟨rfl, hb2⟩
      go_wp2
      go_ret
      exact ⟨rfl, hb.out.trans hb2⟩

/-- What a hex digit tells; -1: it is none. -/
def hd (c : Int) : Int := if 48 ≤ c ∧ c ≤ 57 then c - 48 else if 97 ≤ c ∧ c ≤ 102 then c - 87 else if 65 ≤ c ∧ c ≤ 70 then c - 55 else -1
theorem hd_le (c : Int) : -1 ≤ hd c ∧ hd c ≤ 15 := by unfold hd; constructor <;> (repeat' split) <;> omega
/-- The byte that a % at the head tells. -/
def tok (xs : List Int) : Option Int := if 3 ≤ xs.length ∧ rd xs 0 = 37 ∧ 0 ≤ hd (rd xs 1) ∧ 0 ≤ hd (rd xs 2) then some (hd (rd xs 1) * 16 + hd (rd xs 2)) else none
def pdn : Nat → List Int → List Int
  | 0, _ => []
  | n + 1, xs => if xs.length = 0 then [] else match tok xs with
    | some x => x :: pdn n (xs.drop 3)
    | none => rd xs 0 :: pdn n (xs.drop 1)
/-- What a text's bytes tell. -/
def pd (xs : List Int) : List Int := pdn xs.length xs
theorem tok_len {xs : List Int} {x : Int} (h : tok xs = some x) : 3 ≤ xs.length := by
  unfold tok at h
  split at h
  · rename_i hh; exact hh.1
  · cases h
theorem pdn_fuel : ∀ (n m : Nat) (xs : List Int), xs.length ≤ n → xs.length ≤ m → pdn n xs = pdn m xs
  | 0, 0, _, _, _ => rfl
  | 0, m + 1, xs, h, _ => by simp only [pdn]; rw [if_pos (by omega)]
  | n + 1, 0, xs, _, h => by simp only [pdn]; rw [if_pos (by omega)]
  | n + 1, m + 1, xs, h1, h2 => by
    simp only [pdn]
    by_cases c : xs.length = 0
    · rw [if_pos c, if_pos c]
    · rw [if_neg c, if_neg c]
      cases tok xs with
      | some x => simp only; rw [pdn_fuel n m (xs.drop 3) (by simp; omega) (by simp; omega)]
      | none => simp only; rw [pdn_fuel n m (xs.drop 1) (by simp; omega) (by simp; omega)]
theorem pd_nil : pd [] = [] := rfl
theorem pd_some {xs : List Int} {x : Int} (h : tok xs = some x) : pd xs = x :: pd (xs.drop 3) := by
  have hl := tok_len h
  unfold pd
  obtain ⟨n, hn⟩ : ∃ n, xs.length = n + 1 := ⟨xs.length - 1, by omega⟩
  rw [hn, pdn, if_neg (by omega), h]
  simp only
  rw [pdn_fuel n (xs.drop 3).length _ (by simp; omega) (Nat.le_refl _)]
theorem pd_none {xs : List Int} (h0 : 0 < xs.length) (h : tok xs = none) : pd xs = rd xs 0 :: pd (xs.drop 1) := by
  unfold pd
  obtain ⟨n, hn⟩ : ∃ n, xs.length = n + 1 := ⟨xs.length - 1, by omega⟩
  rw [hn, pdn, if_neg (by omega), h]
  simp only
  rw [pdn_fuel n (xs.drop 1).length _ (by simp; omega) (Nat.le_refl _)]
theorem digit_f (c : Int) (h0 : 0 ≤ c) (h1 : c < 256) (k : Nat) (hk : 3 ≤ k) : pct_digit.f k c = some (if 0 ≤ hd c then (hd c, true) else (0, false)) := by
  obtain ⟨k, rfl⟩ : ∃ q, k = q + 2 := ⟨k - 2, by omega⟩
  unfold pct_digit.f
  by_cases a1 : 48 ≤ c
  · rw [if_pos (show c ≥ 48 from a1)]
    by_cases a2 : c ≤ 57
    · have e : hd c = c - 48 := by unfold hd; rw [if_pos ⟨a1, a2⟩]
      have e3 : (c - 48) % 256 = c - 48 := by omega
      rw [e, decide_eq_true a2, if_pos (show 0 ≤ c - 48 by omega)]
      simp [pct_digit.j0, e3]
    · by_cases a3 : 97 ≤ c
      · by_cases a4 : c ≤ 102
        · have e : hd c = c - 87 := by unfold hd; rw [if_neg (by omega), if_pos ⟨a3, a4⟩]
          have e3 : ((c - 97) % 256 + 10) % 256 = c - 87 := by omega
          rw [e, decide_eq_false a2, if_pos (show 0 ≤ c - 87 by omega)]
          simp [pct_digit.j0, pct_digit.j1, a3, a4, e3]
        · have e : hd c = -1 := by unfold hd; rw [if_neg (by omega), if_neg (by omega), if_neg (by omega)]
          have a6 : ¬ c ≤ 70 := by omega
          rw [e, decide_eq_false a2, if_neg (by omega)]
          simp [pct_digit.j0, pct_digit.j1, a3, a4, a6]
      · by_cases a5 : 65 ≤ c
        · by_cases a6 : c ≤ 70
          · have e : hd c = c - 55 := by unfold hd; rw [if_neg (by omega), if_neg (by omega), if_pos ⟨a5, a6⟩]
            have e3 : ((c - 65) % 256 + 10) % 256 = c - 55 := by omega
            rw [e, decide_eq_false a2, if_pos (show 0 ≤ c - 55 by omega)]
            simp [pct_digit.j0, pct_digit.j1, a3, a5, a6, e3]
          · have e : hd c = -1 := by unfold hd; rw [if_neg (by omega), if_neg (by omega), if_neg (by omega)]
            rw [e, decide_eq_false a2, if_neg (by omega)]
            simp [pct_digit.j0, pct_digit.j1, a3, a5, a6]
        · have e : hd c = -1 := by unfold hd; rw [if_neg (by omega), if_neg (by omega), if_neg (by omega)]
          rw [e, decide_eq_false a2, if_neg (by omega)]
          simp [pct_digit.j0, pct_digit.j1, a3, a5]
  · have e : hd c = -1 := by unfold hd; rw [if_neg (by omega), if_neg (by omega), if_neg (by omega)]
    have a3 : ¬ 97 ≤ c := by omega
    have a5 : ¬ 65 ≤ c := by omega
    rw [if_neg (show ¬ c ≥ 48 from a1), e, if_neg (by omega)]
    simp [pct_digit.j0, pct_digit.j1, a3, a5]
theorem or_nib (h l : Int) (h0 : 0 ≤ h) (h1 : h ≤ 15) (l0 : 0 ≤ l) (l1 : l ≤ 15) : Go.bits .or .u8 ((h * 16) % 256) l = h * 16 + l := by
  obtain ⟨a, rfl⟩ : ∃ n : Nat, h = n := ⟨h.toNat, by omega⟩
  obtain ⟨b, rfl⟩ : ∃ n : Nat, l = n := ⟨l.toNat, by omega⟩
  have ha : a < 16 := by omega
  have hb : b < 16 := by omega
  clear h0 h1 l0 l1
  revert b
  revert a
  decide
theorem told_f (s : ByteArray) (k : Nat) (hk : 9 ≤ k) : ∃ v, pct_told.f k s = some (v, (tok (bs s)).isSome) ∧ ∀ x, tok (bs s) = some x → v = x := by
  obtain ⟨k, rfl⟩ : ∃ q, k = q + 1 := ⟨k - 1, by omega⟩
  unfold pct_told.f tok
  rw [bs_len, rd_bytesOf, rd_bytesOf, rd_bytesOf]
  by_cases c1 : s.size < 3
  · rw [if_pos (by omega), if_neg (by omega)]
    exact ⟨0, by simp [pct_told.j0], by simp⟩
  · rw [if_neg (by omega), if_pos (by omega)]
    by_cases c2 : bt s 0 = 37
    · simp only [pct_told.j0]
      have b1 := bt_byt s 1
      have b2 := bt_byt s 2
      rw [if_neg (by simp [c2]), if_pos (by omega), digit_f _ b1.1 b1.2 k (by omega), Option.bind_some, if_pos (by omega), digit_f _ b2.1 b2.2 k (by omega), Option.bind_some]
      have d1 := hd_le (bt s 1)
      have d2 := hd_le (bt s 2)
      by_cases c3 : 0 ≤ hd (bt s 1)
      · rw [if_pos c3]
        simp only [if_true]
        by_cases c4 : 0 ≤ hd (bt s 2)
        · rw [if_pos c4, if_pos (show 3 ≤ s.size ∧ bt s 0 = 37 ∧ 0 ≤ hd (bt s 1) ∧ 0 ≤ hd (bt s 2) from ⟨by omega, c2, c3, c4⟩)]
          simp only
          rw [or_nib _ _ c3 d1.2 c4 d2.2]
          exact ⟨_, rfl, fun x hx => by simpa using hx⟩
        · rw [if_neg c4, if_neg (show ¬ (3 ≤ s.size ∧ bt s 0 = 37 ∧ 0 ≤ hd (bt s 1) ∧ 0 ≤ hd (bt s 2)) from fun h => c4 h.2.2.2)]
          exact ⟨_, rfl, by simp⟩
      · rw [if_neg c3, if_neg (show ¬ (3 ≤ s.size ∧ bt s 0 = 37 ∧ 0 ≤ hd (bt s 1) ∧ 0 ≤ hd (bt s 2)) from fun h => c3 h.2.2.1)]
        exact ⟨_, rfl, by simp⟩
    · rw [if_neg (show ¬ (3 ≤ s.size ∧ bt s 0 = 37 ∧ 0 ≤ hd (bt s 1) ∧ 0 ≤ hd (bt s 2)) from fun h => c2 h.2.1)]
      have : (bt s 0 != 37) = true := by simpa using c2
      rw [this]
      exact ⟨0, by simp [pct_told.j0], by simp⟩
theorem bs_drop (s : ByteArray) (i : Nat) : bs (s.extract i s.size) = (bs s).drop i := by
  unfold bs Go.Proofs.YtdbihmkeljakeaaW.PrintWords.bytesOf
  rw [ByteArray.data_extract]
  simp
  refine List.take_of_length_le ?_
  rw [List.length_drop, List.length_map, Array.length_toList]
  exact Nat.le_refl _
theorem pdec_l0 (s : ByteArray) (hs : s.size ≤ 1000000) : ∀ (n i : Nat) (acc : List Int) (k : Nat), s.size ≤ i + n → acc.length ≤ i → n + 20 ≤ k → pct_Decode.l0 k s acc i = some (acc ++ pd ((bs s).drop i))
  | n, i, acc, k, hn, ha, hk => by
    obtain ⟨k, rfl⟩ : ∃ q, k = q + 1 := ⟨k - 1, by omega⟩
    simp only [pct_Decode.l0]
    by_cases c : i < s.size
    · obtain ⟨v, hv, hx⟩ := told_f (s.extract i s.size) k (by omega)
      rw [bs_drop] at hv hx
      rw [if_pos (by omega), if_pos (by omega), if_pos (by omega), Int.toNat_natCast, hv, Option.bind_some]
      obtain ⟨n, rfl⟩ : ∃ q, n = q + 1 := ⟨n - 1, by omega⟩
      cases ht : tok ((bs s).drop i) with
      | some x =>
        have hl := tok_len ht
        rw [List.length_drop, bs_len] at hl
        have e := hx x ht
        subst e
        simp only [Option.isSome_some, if_true]
        have w1 : wrap64 ((i : Int) + 2) = (i : Int) + 2 := w64 (by omega) (by omega)
        have w2 : wrap64 ((i : Int) + 2 + 1) = (i : Int) + 2 + 1 := w64 (by omega) (by omega)
        rw [if_pos (by omega), w1, w2]
        have := pdec_l0 s hs n (i + 3) (acc ++ [v]) k (by omega) (by simp; omega) (by omega)
        rw [show ((i : Int) + 2 + 1) = ((i + 3 : Nat) : Int) by omega, this, pd_some ht, List.drop_drop, List.append_assoc]
        rfl
      | none =>
        simp only [Option.isSome_none, Bool.false_eq_true, if_false]
        rw [if_pos (by omega), w64 (by omega) (by omega)]
        have := pdec_l0 s hs n (i + 1) (acc ++ [bt s (i : Int)]) k (by omega) (by simp; omega) (by omega)
        rw [show ((i : Int) + 1) = ((i + 1 : Nat) : Int) by omega, this, pd_none (by rw [List.length_drop, bs_len]; omega) ht, List.drop_drop, List.append_assoc]
        have e : rd ((bs s).drop i) 0 = bt s (i : Int) := by
          rw [bt_drop s i c]; rfl
        rw [e]
        rfl
    · rw [if_neg (by omega), List.drop_eq_nil_of_le (by rw [bs_len]; omega), pd_nil, List.append_nil]
theorem pdecode_c (s : ByteArray) (w : World) (hs : s.size ≤ 1000000) :
    Calls Try.prog 16 #[.string s] w fun e w' => ∃ v, e = .returned v ∧ Kd.R (Kd.int .u8) 5 w' w.heap.size (fun _ => True) v (pd (bs s)) ∧ Below w.heap.size w w' :=
  pct_Decode.calls (s.size + 30) s _ w (by simpa [pct_Decode.f] using pdec_l0 s hs s.size 0 [] (s.size + 30) (by omega) (by simp) (by omega))

end Go.Proofs.Ytdbihmkeljakeaa.LinkPctTells
