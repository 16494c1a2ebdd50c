/- Go functions come to Lean functions of the same names: walks, written by a program of the session (wip/pp.py). No condition beyond those named in each theorem. -/
import Derived.Test.YtdbihmkeljakeaaPPctx0
namespace Go.Proofs.Ytdbihmkeljakeaa.PPct
open Go.RowKit Go.Proofs.YtdbihmkeljakeaaW.PrintWords Go.Proofs.YtdbihmkeljakeaaW.PrintLast Go.Proofs.YtdbihmkeljakeaaW.PrintMore
attribute [local go_sem] max2_int min2_int max_two min_two max_three min_three max_four min_four   -- for this text's walks alone
set_option linter.unusedVariables false
set_option linter.unusedSimpArgs false

/-! ### pct_extra: function 22 -/
def pct_extra.f (a0 : Int) : Option (ByteArray × Bool) := if a0 = 0 then (some ((⟨#[]⟩ : ByteArray), true)) else (if a0 = 1 then (some ((⟨#[32, 34, 60, 62, 96]⟩ : ByteArray), true)) else (if a0 = 2 then (some ((⟨#[32, 34, 35, 60, 62]⟩ : ByteArray), true)) else (if a0 = 3 then (some ((⟨#[32, 34, 35, 60, 62, 39]⟩ : ByteArray), true)) else (if a0 = 4 then (some ((⟨#[32, 34, 35, 60, 62, 63, 94, 96, 123, 125]⟩ : ByteArray), true)) else (if a0 = 5 then (some ((⟨#[32, 34, 35, 60, 62, 63, 94, 96, 123, 125, 47, 58, 59, 61, 64, 91, 92, 93, 124]⟩ : ByteArray), true)) else (if a0 = 6 then (some ((⟨#[32, 34, 35, 60, 62, 63, 94, 96, 123, 125, 47, 58, 59, 61, 64, 91, 92, 93, 124, 36, 37, 38, 43, 44]⟩ : ByteArray), true)) else (some ((⟨#[]⟩ : ByteArray), false))))))))
set_option maxHeartbeats 8000000 in
set_option maxRecDepth 100000 in
theorem pct_extra.calls (a0 : Int) (r1 : ByteArray) (r2 : Bool) (w : World) (h : pct_extra.f a0 = some (r1, r2)) :
    Calls Try.prog 22 #[.int .i64 a0] w fun e w' => e = .returned (.tuple #[.string r1, .bool r2]) ∧ Drawn0 w w' := by
  have H : (if a0 = 0 then (some ((⟨#[]⟩ : ByteArray), true)) else (if a0 = 1 then (some ((⟨#[32, 34, 60, 62, 96]⟩ : ByteArray), true)) else (if a0 = 2 then (some ((⟨#[32, 34, 35, 60, 62]⟩ : ByteArray), true)) else (if a0 = 3 then (some ((⟨#[32, 34, 35, 60, 62, 39]⟩ : ByteArray), true)) else (if a0 = 4 then (some ((⟨#[32, 34, 35, 60, 62, 63, 94, 96, 123, 125]⟩ : ByteArray), true)) else (if a0 = 5 then (some ((⟨#[32, 34, 35, 60, 62, 63, 94, 96, 123, 125, 47, 58, 59, 61, 64, 91, 92, 93, 124]⟩ : ByteArray), true)) else (if a0 = 6 then (some ((⟨#[32, 34, 35, 60, 62, 63, 94, 96, 123, 125, 47, 58, 59, 61, 64, 91, 92, 93, 124, 36, 37, 38, 43, 44]⟩ : ByteArray), true)) else (some ((⟨#[]⟩ : ByteArray), false))))))))) = some (r1, r2) := h
  clear h
  by_cases c2 : a0 = 0
  · rw [if_pos c2] at H
    have c2b0 : (a0 == 0) = true := beq_iff_eq.mpr c2
    have c2b1 : (a0 != 0) = false := bne_eq_false_iff_eq.mpr c2
    clear c2
    simp only [Option.some.injEq, Prod.mk.injEq] at H
    obtain ⟨rfl, rfl⟩ := H
    go_enter Try.func22, Try.ntmps22
    go_wp2
    go_ret2
    exact ⟨by first | rfl | (simp; done) | (simp [*]; done), by repeat (first | exact Drawn0.refl _ | apply Drawn0.step)⟩
  · rw [if_neg c2] at H
    have c2b0 : (a0 == 0) = false := beq_eq_false_iff_ne.mpr c2
    have c2b1 : (a0 != 0) = true := bne_iff_ne.mpr c2
    by_cases c3 : a0 = 1
    · rw [if_pos c3] at H
      have c3b0 : (a0 == 1) = true := beq_iff_eq.mpr c3
      have c3b1 : (a0 != 1) = false := bne_eq_false_iff_eq.mpr c3
      clear c3
      simp only [Option.some.injEq, Prod.mk.injEq] at H
      obtain ⟨rfl, rfl⟩ := H
      go_enter Try.func22, Try.ntmps22
      go_wp2
      go_ret2
      exact ⟨by first | rfl | (simp; done) | (simp [*]; done), by repeat (first | exact Drawn0.refl _ | apply Drawn0.step)⟩
    · rw [if_neg c3] at H
      have c3b0 : (a0 == 1) = false := beq_eq_false_iff_ne.mpr c3
      have c3b1 : (a0 != 1) = true := bne_iff_ne.mpr c3
      by_cases c4 : a0 = 2
      · rw [if_pos c4] at H
        have c4b0 : (a0 == 2) = true := beq_iff_eq.mpr c4
        have c4b1 : (a0 != 2) = false := bne_eq_false_iff_eq.mpr c4
        clear c4
        simp only [Option.some.injEq, Prod.mk.injEq] at H
        obtain ⟨rfl, rfl⟩ := H
        go_enter Try.func22, Try.ntmps22
        go_wp2
        go_ret2
        exact ⟨by first | rfl | (simp; done) | (simp [*]; done), by repeat (first | exact Drawn0.refl _ | apply Drawn0.step)⟩
      · rw [if_neg c4] at H
        have c4b0 : (a0 == 2) = false := beq_eq_false_iff_ne.mpr c4
        have c4b1 : (a0 != 2) = true := bne_iff_ne.mpr c4
        by_cases c5 : a0 = 3
        · rw [if_pos c5] at H
          have c5b0 : (a0 == 3) = true := beq_iff_eq.mpr c5
          have c5b1 : (a0 != 3) = false := bne_eq_false_iff_eq.mpr c5
          clear c5
          simp only [Option.some.injEq, Prod.mk.injEq] at H
          obtain ⟨rfl, rfl⟩ := H
          go_enter Try.func22, Try.ntmps22
          go_wp2
          go_ret2
          exact ⟨by first | rfl | (simp; done) | (simp [*]; done), by repeat (first | exact Drawn0.refl _ | apply Drawn0.step)⟩
        · rw [if_neg c5] at H
          have c5b0 : (a0 == 3) = false := beq_eq_false_iff_ne.mpr c5
          have c5b1 : (a0 != 3) = true := bne_iff_ne.mpr c5
          by_cases c6 : a0 = 4
          · rw [if_pos c6] at H
            have c6b0 : (a0 == 4) = true := beq_iff_eq.mpr c6
            have c6b1 : (a0 != 4) = false := bne_eq_false_iff_eq.mpr c6
            clear c6
            simp only [Option.some.injEq, Prod.mk.injEq] at H
            obtain ⟨rfl, rfl⟩ := H
            go_enter Try.func22, Try.ntmps22
            go_wp2
            go_ret2
            exact ⟨by first | rfl | (simp; done) | (simp [*]; done), by repeat (first | exact Drawn0.refl _ | apply Drawn0.step)⟩
          · rw [if_neg c6] at H
            have c6b0 : (a0 == 4) = false := beq_eq_false_iff_ne.mpr c6
            have c6b1 : (a0 != 4) = true := bne_iff_ne.mpr c6
            by_cases c7 : a0 = 5
            · rw [if_pos c7] at H
              have c7b0 : (a0 == 5) = true := beq_iff_eq.mpr c7
              have c7b1 : (a0 != 5) = false := bne_eq_false_iff_eq.mpr c7
              clear c7
              simp only [Option.some.injEq, Prod.mk.injEq] at H
              obtain ⟨rfl, rfl⟩ := H
              go_enter Try.func22, Try.ntmps22
              go_wp2
              go_ret2
              exact ⟨by first | rfl | (simp; done) | (simp [*]; done), by repeat (first | exact Drawn0.refl _ | apply Drawn0.step)⟩
            · rw [if_neg c7] at H
              have c7b0 : (a0 == 5) = false := beq_eq_false_iff_ne.mpr c7
              have c7b1 : (a0 != 5) = true := bne_iff_ne.mpr c7
              by_cases c8 : a0 = 6
              · rw [if_pos c8] at H
                have c8b0 : (a0 == 6) = true := beq_iff_eq.mpr c8
                have c8b1 : (a0 != 6) = false := bne_eq_false_iff_eq.mpr c8
                clear c8
                simp only [Option.some.injEq, Prod.mk.injEq] at H
                obtain ⟨rfl, rfl⟩ := H
                go_enter Try.func22, Try.ntmps22
                go_wp2
                go_ret2
                exact ⟨by first | rfl | (simp; done) | (simp [*]; done), by repeat (first | exact Drawn0.refl _ | apply Drawn0.step)⟩
              · rw [if_neg c8] at H
                have c8b0 : (a0 == 6) = false := beq_eq_false_iff_ne.mpr c8
                have c8b1 : (a0 != 6) = true := bne_iff_ne.mpr c8
                simp only [Option.some.injEq, Prod.mk.injEq] at H
                obtain ⟨rfl, rfl⟩ := H
                go_enter Try.func22, Try.ntmps22
                go_wp2
                go_ret2
                exact ⟨by first | rfl | (simp; done) | (simp [*]; done), by repeat (first | exact Drawn0.refl _ | apply Drawn0.step)⟩

-- NOT PRINTED: function 39 (bytealg_IndexByteString)

-- NOT PRINTED: function 33 (stringslite_IndexByte)

-- NOT PRINTED: function 23 (strings_IndexByte)

/-! ### pct_In: function 11 -/
section
set_option maxRecDepth 100000
open Go Go.Lib Go.Proofs.Ytdbihmkeljakeaa.Utf
/-- A string's bytes, as numbers. -/
abbrev bs (s : ByteArray) : List Int := Go.Proofs.YtdbihmkeljakeaaW.PrintWords.bytesOf s
theorem bs_len (s : ByteArray) : (bs s).length = s.size :=
  Go.Proofs.YtdbihmkeljakeaaW.PrintWords.bytesOf_length s
theorem bs_byt (s : ByteArray) : Byt (bs s) := by
  intro x hx
  simp only [bs, Go.Proofs.YtdbihmkeljakeaaW.PrintWords.bytesOf, List.mem_map] at hx
  obtain ⟨c, -, rfl⟩ := hx
  have := c.toNat_lt
  omega
theorem bs_C (w : World) (s : ByteArray) (hs : s.size ≤ 140737488351232) : (Kd.int .u8).C (bytesWorld w 5 s) (some ⟨w.heap.size, 0, none⟩) (bs s).length (bs s) := by
  rw [bs_len]
  exact Kd.C_of_reads (d := (0 : Int)) (h1 := fun _ => rfl) (bytes_reads w 5 s (by omega))
theorem bs_below (w : World) (s : ByteArray) : Below w.heap.size w (bytesWorld w 5 s) := bytes_below (Below.refl _ _) (Nat.le_refl _) _ _
theorem bs_dec (s : ByteArray) : (uDec (bs s)).length ≤ s.size := by have := decode_len _ (bs s) (Nat.le_refl _); rw [bs_len] at this; exact this

/-- What a set has beside the controls. -/
def xb (set : Int) : ByteArray :=
  if set = 1 then ⟨#[32, 34, 60, 62, 96]⟩ else if set = 2 then ⟨#[32, 34, 35, 60, 62]⟩ else if set = 3 then ⟨#[32, 34, 35, 60, 62, 39]⟩
  else if set = 4 then ⟨#[32, 34, 35, 60, 62, 63, 94, 96, 123, 125]⟩ else if set = 5 then ⟨#[32, 34, 35, 60, 62, 63, 94, 96, 123, 125, 47, 58, 59, 61, 64, 91, 92, 93, 124]⟩
  else if set = 6 then ⟨#[32, 34, 35, 60, 62, 63, 94, 96, 123, 125, 47, 58, 59, 61, 64, 91, 92, 93, 124, 36, 37, 38, 43, 44]⟩ else ⟨#[]⟩
/-- Is a number in a set? -/
def pin (set r : Int) : Bool :=
  if set < 0 ∨ 6 < set ∨ r < 0 ∨ 1114111 < r then false else if r < 32 ∨ 126 < r then true else (bs (xb set)).contains r
theorem extra_f (set : Int) : pct_extra.f set = some (xb set, decide (0 ≤ set ∧ set ≤ 6)) := by
  unfold pct_extra.f xb
  by_cases c0 : set = 0
  · subst c0; simp
  by_cases c1 : set = 1
  · subst c1; simp
  by_cases c2 : set = 2
  · subst c2; simp
  by_cases c3 : set = 3
  · subst c3; simp
  by_cases c4 : set = 4
  · subst c4; simp
  by_cases c5 : set = 5
  · subst c5; simp
  by_cases c6 : set = 6
  · subst c6; simp
  · simp only [if_neg c0, if_neg c1, if_neg c2, if_neg c3, if_neg c4, if_neg c5, if_neg c6]
    rw [decide_eq_false (by omega)]
theorem extra_c (set : Int) (w : World) : Calls Try.prog 22 #[.int .i64 set] w fun e w' => e = .returned (.tuple #[.string (xb set), .bool (decide (0 ≤ set ∧ set ≤ 6))]) ∧ Below w.heap.size w w' :=
  (pct_extra.calls set _ _ w (extra_f set)).mono fun e w' h => ⟨h.1, h.2.below⟩
theorem bs_contains (s : ByteArray) (r : Int) (h : 0 ≤ r) (h2 : r < 256) : (bs s).contains r = decide (0 ≤ indexByte s.data.toList r.toNat.toUInt8) := by
  rw [← contains_iff_indexByte]
  unfold bs Go.Proofs.YtdbihmkeljakeaaW.PrintWords.bytesOf
  generalize s.data.toList = l
  induction l with
  | nil => rfl
  | cons c l ih =>
    rw [List.map_cons, List.contains_cons, List.contains_cons, ih]
    congr 1
    rw [Bool.eq_iff_iff, beq_iff_eq, beq_iff_eq]
    constructor
    · intro e
      subst e
      simp
    · intro e
      rw [← e]
      simp only [Nat.toUInt8, UInt8.toNat_ofNat']
      omega
set_option maxHeartbeats 1000000 in
theorem in_c (set r : Int) (w : World) (_h0 : -2147483648 ≤ r) (_h1 : r < 2147483648) :
    Calls Try.prog 11 #[.int .i64 set, .int .i32 r] w fun e w' => e = .returned (.bool (pin set r)) ∧ Below w.heap.size w w' := by
  have kx := extra_c set w
  by_cases c1 : 0 ≤ set ∧ set ≤ 6
  · rw [decide_eq_true c1] at kx
    by_cases c2 : r < 0
    · have e : pin set r = false := by unfold pin; rw [if_pos (by omega)]
      rw [e]
      have d1 : decide (r < 0) = true := decide_eq_true c2
      clear e
      have kx := Lib.hid kx
      go_enter Try.func11, Try.ntmps11
      go_wp2_with fail
      refine kx.out.mono ?_
      rintro e w1 ⟨rfl, hb⟩
      go_wp2
      go_ret
      exact ⟨by simp, hb⟩
    by_cases c3 : 1114111 < r
    · have e : pin set r = false := by unfold pin; rw [if_pos (by omega)]
      rw [e]
      have d1 : decide (r < 0) = false := decide_eq_false c2
      have d2 : decide (1114111 < r) = true := decide_eq_true c3
      clear e
      have kx := Lib.hid kx
      go_enter Try.func11, Try.ntmps11
      go_wp2_with fail
      refine kx.out.mono ?_
      rintro e w1 ⟨rfl, hb⟩
      go_wp2
      go_ret
      exact ⟨by simp, hb⟩
    have d1 : decide (r < 0) = false := decide_eq_false c2
    have d2 : decide (1114111 < r) = false := decide_eq_false c3
    by_cases c4 : r < 32
    · have e : pin set r = true := by unfold pin; rw [if_neg (by omega), if_pos (by omega)]
      rw [e]
      have d3 : decide (r < 32) = true := decide_eq_true c4
      clear e
      have kx := Lib.hid kx
      go_enter Try.func11, Try.ntmps11
      go_wp2_with fail
      refine kx.out.mono ?_
      rintro e w1 ⟨rfl, hb⟩
      go_wp2
      go_ret
      exact ⟨by simp, hb⟩
    have d3 : decide (r < 32) = false := decide_eq_false c4
    by_cases c5 : 126 < r
    · have e : pin set r = true := by unfold pin; rw [if_neg (by omega), if_pos (by omega)]
      rw [e]
      have d4 : decide (126 < r) = true := decide_eq_true c5
      clear e
      have kx := Lib.hid kx
      go_enter Try.func11, Try.ntmps11
      go_wp2_with fail
      refine kx.out.mono ?_
      rintro e w1 ⟨rfl, hb⟩
      go_wp2
      go_ret
      exact ⟨by simp, hb⟩
    have d4 : decide (126 < r) = false := decide_eq_false c5
    have e : pin set r = decide (0 ≤ indexByte (xb set).data.toList r.toNat.toUInt8) := by
      unfold pin; rw [if_neg (by omega), if_neg (by omega), bs_contains _ _ (by omega) (by omega)]
    have hr0 : 0 ≤ r := by omega
    have hr1 : r ≤ 126 := by omega
    have ki := fun w => Try.strings_IndexByte (xb set) r w
    generalize indexByte (xb set).data.toList r.toNat.toUInt8 = z at *
    have e := Lib.hid e
    have kx := Lib.hid kx
    have ki := Lib.hid ki
    go_enter Try.func11, Try.ntmps11
    go_wp2_with fail
    refine kx.out.mono ?_
    rintro e' w1 ⟨rfl, hb⟩
    go_wp2_with fail
    refine (ki.out w1).mono ?_
    rintro e' w2 ⟨rfl, rfl⟩
    go_wp2
    go_ret
    exact ⟨by simp [e.out], hb⟩
  · rw [decide_eq_false c1] at kx
    have e : pin set r = false := by unfold pin; rw [if_pos (by omega)]
    rw [e]
    clear e
    have kx := Lib.hid kx
    go_enter Try.func11, Try.ntmps11
    go_wp2_with fail
    refine kx.out.mono ?_
    rintro e w1 ⟨rfl, hb⟩
    go_wp2
    go_ret
    exact ⟨by simp, hb⟩

def pct_In.f (a0 a1 : Int) : Option Bool := if -2147483648 ≤ a1 ∧ a1 < 2147483648 then some (pin a0 a1) else none
theorem pct_In.calls (a0 a1 : Int) (r : Bool) (w : World) (h : pct_In.f a0 a1 = some r) :
    Calls Try.prog 11 #[.int .i64 a0, .int .i32 a1] w fun e w' => e = .returned (.bool r) ∧ Below w.heap.size w w' := by
  unfold pct_In.f at h
  split at h
  · rename_i c
    obtain rfl := Option.some.inj h
    exact in_c a0 a1 w c.1 c.2
  · cases h

end

end Go.Proofs.Ytdbihmkeljakeaa.PPct
