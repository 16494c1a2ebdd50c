/- Two texts one behind the other are told, and read, as one is and then the other: the walk of the law PctJoins. Conditions: texts as long as the law lets in. -/
import Derived.Test.YtdbihmkeljakeaaUs
import Derived.Test.YtdbihmkeljakeaaPPctx0
import Derived.Test.YtdbihmkeljakeaaPPctx1
import Derived.Test.YtdbihmkeljakeaaPPctx2
import Derived.Test.YtdbihmkeljakeaaPPctx3
import Derived.Test.YtdbihmkeljakeaaPPctx4
import Derived.Test.YtdbihmkeljakeaaPPctx5
import Derived.Test.YtdbihmkeljakeaaPPctx7
import Derived.Test.YtdbihmkeljakeaaPPctx8
import Derived.Lib.Hide
namespace Go.Proofs.Ytdbihmkeljakeaa.LinkPct
open Go Go.RowKit Go.Proofs.Ytdbihmkeljakeaa Go.Proofs.Ytdbihmkeljakeaa.PPct Go.Proofs.YtdbihmkeljakeaaW.PrintWords Go.Proofs.YtdbihmkeljakeaaW.PrintLast Go.Proofs.YtdbihmkeljakeaaW.PrintMore Go.Proofs.Ytdbihmkeljakeaa.Utf Go.Lib
set_option linter.unusedVariables false
set_option linter.unusedSimpArgs false
set_option maxRecDepth 100000
/-- What a hex digit tells; -1: it is none. -/
def hd (c : Int) : Int := if 48 ≤ c ∧ c ≤ 57 then c - 48 else if 97 ≤ c ∧ c ≤ 102 then c - 87 else if 65 ≤ c ∧ c ≤ 70 then c - 55 else -1
theorem hd_le (c : Int) : -1 ≤ hd c ∧ hd c ≤ 15 := by unfold hd; constructor <;> (repeat' split) <;> omega
/-- The byte that a % at the head tells. -/
def tok (xs : List Int) : Option Int := if 3 ≤ xs.length ∧ rd xs 0 = 37 ∧ 0 ≤ hd (rd xs 1) ∧ 0 ≤ hd (rd xs 2) then some (hd (rd xs 1) * 16 + hd (rd xs 2)) else none
def pdn : Nat → List Int → List Int
  | 0, _ => []
  | n + 1, xs => if xs.length = 0 then [] else match tok xs with
    | some x => x :: pdn n (xs.drop 3)
    | none => rd xs 0 :: pdn n (xs.drop 1)
/-- What a text's bytes tell. -/
def pd (xs : List Int) : List Int := pdn xs.length xs
theorem tok_len {xs : List Int} {x : Int} (h : tok xs = some x) : 3 ≤ xs.length := by
  unfold tok at h
  split at h
  · rename_i hh; exact hh.1
  · cases h
theorem pdn_fuel : ∀ (n m : Nat) (xs : List Int), xs.length ≤ n → xs.length ≤ m → pdn n xs = pdn m xs
  | 0, 0, _, _, _ => rfl
  | 0, m + 1, xs, h, _ => by simp only [pdn]; rw [if_pos (by omega)]
  | n + 1, 0, xs, _, h => by simp only [pdn]; rw [if_pos (by omega)]
  | n + 1, m + 1, xs, h1, h2 => by
    simp only [pdn]
    by_cases c : xs.length = 0
    · rw [if_pos c, if_pos c]
    · rw [if_neg c, if_neg c]
      cases tok xs with
      | some x => simp only; rw [pdn_fuel n m (xs.drop 3) (by simp; omega) (by simp; omega)]
      | none => simp only; rw [pdn_fuel n m (xs.drop 1) (by simp; omega) (by simp; omega)]
theorem pd_nil : pd [] = [] := rfl
theorem pd_some {xs : List Int} {x : Int} (h : tok xs = some x) : pd xs = x :: pd (xs.drop 3) := by
  have hl := tok_len h
  unfold pd
  obtain ⟨n, hn⟩ : ∃ n, xs.length = n + 1 := ⟨xs.length - 1, by omega⟩
  rw [hn, pdn, if_neg (by omega), h]
  simp only
  rw [pdn_fuel n (xs.drop 3).length _ (by simp; omega) (Nat.le_refl _)]
theorem pd_none {xs : List Int} (h0 : 0 < xs.length) (h : tok xs = none) : pd xs = rd xs 0 :: pd (xs.drop 1) := by
  unfold pd
  obtain ⟨n, hn⟩ : ∃ n, xs.length = n + 1 := ⟨xs.length - 1, by omega⟩
  rw [hn, pdn, if_neg (by omega), h]
  simp only
  rw [pdn_fuel n (xs.drop 1).length _ (by simp; omega) (Nat.le_refl _)]
theorem digit_f (c : Int) (h0 : 0 ≤ c) (h1 : c < 256) (k : Nat) (hk : 3 ≤ k) : pct_digit.f k c = some (if 0 ≤ hd c then (hd c, true) else (0, false)) := by
  obtain ⟨k, rfl⟩ : ∃ q, k = q + 2 := ⟨k - 2, by omega⟩
  unfold pct_digit.f
  by_cases a1 : 48 ≤ c
  · rw [if_pos (show c ≥ 48 from a1)]
    by_cases a2 : c ≤ 57
    · have e : hd c = c - 48 := by unfold hd; rw [if_pos ⟨a1, a2⟩]
      have e3 : (c - 48) % 256 = c - 48 := by omega
      rw [e, decide_eq_true a2, if_pos (show 0 ≤ c - 48 by omega)]
      simp [pct_digit.j0, e3]
    · by_cases a3 : 97 ≤ c
      · by_cases a4 : c ≤ 102
        · have e : hd c = c - 87 := by unfold hd; rw [if_neg (by omega), if_pos ⟨a3, a4⟩]
          have e3 : ((c - 97) % 256 + 10) % 256 = c - 87 := by omega
          rw [e, decide_eq_false a2, if_pos (show 0 ≤ c - 87 by omega)]
          simp [pct_digit.j0, pct_digit.j1, a3, a4, e3]
        · have e : hd c = -1 := by unfold hd; rw [if_neg (by omega), if_neg (by omega), if_neg (by omega)]
          have a6 : ¬ c ≤ 70 := by omega
          rw [e, decide_eq_false a2, if_neg (by omega)]
          simp [pct_digit.j0, pct_digit.j1, a3, a4, a6]
      · by_cases a5 : 65 ≤ c
        · by_cases a6 : c ≤ 70
          · have e : hd c = c - 55 := by unfold hd; rw [if_neg (by omega), if_neg (by omega), if_pos ⟨a5, a6⟩]
            have e3 : ((c - 65) % 256 + 10) % 256 = c - 55 := by omega
            rw [e, decide_eq_false a2, if_pos (show 0 ≤ c - 55 by omega)]
            simp [pct_digit.j0, pct_digit.j1, a3, a5, a6, e3]
          · have e : hd c = -1 := by unfold hd; rw [if_neg (by omega), if_neg (by omega), if_neg (by omega)]
            rw [e, decide_eq_false a2, if_neg (by omega)]
            simp [pct_digit.j0, pct_digit.j1, a3, a5, a6]
        · have e : hd c = -1 := by unfold hd; rw [if_neg (by omega), if_neg (by omega), if_neg (by omega)]
          rw [e, decide_eq_false a2, if_neg (by omega)]
          simp [pct_digit.j0, pct_digit.j1, a3, a5]
  · have e : hd c = -1 := by unfold hd; rw [if_neg (by omega), if_neg (by omega), if_neg (by omega)]
    have a3 : ¬ 97 ≤ c := by omega
    have a5 : ¬ 65 ≤ c := by omega
    rw [if_neg (show ¬ c ≥ 48 from a1), e, if_neg (by omega)]
    simp [pct_digit.j0, pct_digit.j1, a3, a5]
theorem or_nib (h l : Int) (h0 : 0 ≤ h) (h1 : h ≤ 15) (l0 : 0 ≤ l) (l1 : l ≤ 15) : Go.bits .or .u8 ((h * 16) % 256) l = h * 16 + l := by
  obtain ⟨a, rfl⟩ : ∃ n : Nat, h = n := ⟨h.toNat, by omega⟩
  obtain ⟨b, rfl⟩ : ∃ n : Nat, l = n := ⟨l.toNat, by omega⟩
  have ha : a < 16 := by omega
  have hb : b < 16 := by omega
  clear h0 h1 l0 l1
  revert b
  revert a
  decide
theorem told_f (s : ByteArray) (k : Nat) (hk : 9 ≤ k) : ∃ v, pct_told.f k s = some (v, (tok (bs s)).isSome) ∧ ∀ x, tok (bs s) = some x → v = x := by
  obtain ⟨k, rfl⟩ : ∃ q, k = q + 1 := ⟨k - 1, by omega⟩
  unfold pct_told.f tok
  rw [bs_len, rd_bytesOf, rd_bytesOf, rd_bytesOf]
  by_cases c1 : s.size < 3
  · rw [if_pos (by omega), if_neg (by omega)]
    exact ⟨0, by simp [pct_told.j0], by simp⟩
  · rw [if_neg (by omega), if_pos (by omega)]
    by_cases c2 : bt s 0 = 37
    · simp only [pct_told.j0]
      have b1 := bt_byt s 1
      have b2 := bt_byt s 2
      rw [if_neg (by simp [c2]), if_pos (by omega), digit_f _ b1.1 b1.2 k (by omega), Option.bind_some, if_pos (by omega), digit_f _ b2.1 b2.2 k (by omega), Option.bind_some]
      have d1 := hd_le (bt s 1)
      have d2 := hd_le (bt s 2)
      by_cases c3 : 0 ≤ hd (bt s 1)
      · rw [if_pos c3]
        simp only [if_true]
        by_cases c4 : 0 ≤ hd (bt s 2)
        · rw [if_pos c4, if_pos (show 3 ≤ s.size ∧ bt s 0 = 37 ∧ 0 ≤ hd (bt s 1) ∧ 0 ≤ hd (bt s 2) from ⟨by omega, c2, c3, c4⟩)]
          simp only
          rw [or_nib _ _ c3 d1.2 c4 d2.2]
          exact ⟨_, rfl, fun x hx => by simpa using hx⟩
        · rw [if_neg c4, if_neg (show ¬ (3 ≤ s.size ∧ bt s 0 = 37 ∧ 0 ≤ hd (bt s 1) ∧ 0 ≤ hd (bt s 2)) from fun h => c4 h.2.2.2)]
          exact ⟨_, rfl, by simp⟩
      · rw [if_neg c3, if_neg (show ¬ (3 ≤ s.size ∧ bt s 0 = 37 ∧ 0 ≤ hd (bt s 1) ∧ 0 ≤ hd (bt s 2)) from fun h => c3 h.2.2.1)]
        exact ⟨_, rfl, by simp⟩
    · rw [if_neg (show ¬ (3 ≤ s.size ∧ bt s 0 = 37 ∧ 0 ≤ hd (bt s 1) ∧ 0 ≤ hd (bt s 2)) from fun h => c2 h.2.1)]
      have : (bt s 0 != 37) = true := by simpa using c2
      rw [this]
      exact ⟨0, by simp [pct_told.j0], by simp⟩
theorem bs_drop (s : ByteArray) (i : Nat) : bs (s.extract i s.size) = (bs s).drop i := by
  unfold bs Go.Proofs.YtdbihmkeljakeaaW.PrintWords.bytesOf
  rw [ByteArray.data_extract]
  simp
  refine List.take_of_length_le ?_
  rw [List.length_drop, List.length_map, Array.length_toList]
  exact Nat.le_refl _
theorem pdec_l0 (s : ByteArray) (hs : s.size ≤ 1000000) : ∀ (n i : Nat) (acc : List Int) (k : Nat), s.size ≤ i + n → acc.length ≤ i → n + 20 ≤ k → pct_Decode.l0 k s acc i = some (acc ++ pd ((bs s).drop i))
  | n, i, acc, k, hn, ha, hk => by
    obtain ⟨k, rfl⟩ : ∃ q, k = q + 1 := ⟨k - 1, by omega⟩
    simp only [pct_Decode.l0]
    by_cases c : i < s.size
    · obtain ⟨v, hv, hx⟩ := told_f (s.extract i s.size) k (by omega)
      rw [bs_drop] at hv hx
      rw [if_pos (by omega), if_pos (by omega), if_pos (by omega), Int.toNat_natCast, hv, Option.bind_some]
      obtain ⟨n, rfl⟩ : ∃ q, n = q + 1 := ⟨n - 1, by omega⟩
      cases ht : tok ((bs s).drop i) with
      | some x =>
        have hl := tok_len ht
        rw [List.length_drop, bs_len] at hl
        have e := hx x ht
        subst e
        simp only [Option.isSome_some, if_true]
        have w1 : wrap64 ((i : Int) + 2) = (i : Int) + 2 := w64 (by omega) (by omega)
        have w2 : wrap64 ((i : Int) + 2 + 1) = (i : Int) + 2 + 1 := w64 (by omega) (by omega)
        rw [if_pos (by omega), w1, w2]
        have := pdec_l0 s hs n (i + 3) (acc ++ [v]) k (by omega) (by simp; omega) (by omega)
        rw [show ((i : Int) + 2 + 1) = ((i + 3 : Nat) : Int) by omega, this, pd_some ht, List.drop_drop, List.append_assoc]
        rfl
      | none =>
        simp only [Option.isSome_none, Bool.false_eq_true, if_false]
        rw [if_pos (by omega), w64 (by omega) (by omega)]
        have := pdec_l0 s hs n (i + 1) (acc ++ [bt s (i : Int)]) k (by omega) (by simp; omega) (by omega)
        rw [show ((i : Int) + 1) = ((i + 1 : Nat) : Int) by omega, this, pd_none (by rw [List.length_drop, bs_len]; omega) ht, List.drop_drop, List.append_assoc]
        have e : rd ((bs s).drop i) 0 = bt s (i : Int) := by
          rw [bt_drop s i c]; rfl
        rw [e]
        rfl
    · rw [if_neg (by omega), List.drop_eq_nil_of_le (by rw [bs_len]; omega), pd_nil, List.append_nil]
theorem pdecode_c (s : ByteArray) (w : World) (hs : s.size ≤ 1000000) :
    Calls Try.prog 16 #[.string s] w fun e w' => ∃ v, e = .returned v ∧ Kd.R (Kd.int .u8) 5 w' w.heap.size (fun _ => True) v (pd (bs s)) ∧ Below w.heap.size w w' :=
  pct_Decode.calls (s.size + 30) s _ w (by simpa [pct_Decode.f] using pdec_l0 s hs s.size 0 [] (s.size + 30) (by omega) (by simp) (by omega))

theorem seq_ok (c : Int) (h : 0 ≤ c ∧ c < 256) (k : Nat) (hk : 4 ≤ k) :
    gossamerref1_seq.f k c = some (match uLead c with | none => (0, 0, 0) | some (m, r, lo, hi) => ((m : Int) + 1, if m = 0 then 0 else lo, if m = 0 then 0 else hi)) := by
  obtain ⟨k, rfl⟩ : ∃ m, k = m + 4 := ⟨k - 4, by omega⟩
  unfold gossamerref1_seq.f uLead
  simp only [gossamerref1_seq.j0, gossamerref1_seq.j1, gossamerref1_seq.j2, decide_eq_true_eq, ge_iff_le]
  by_cases c1 : c < 128
  · simp only [if_pos c1, if_pos (show c ≤ 127 by omega)]; rfl
  · by_cases c2 : c < 194
    · simp only [if_neg c1, if_pos c2, if_neg (show ¬ c ≤ 127 by omega), if_neg (show ¬ 194 ≤ c by omega), if_neg (show ¬ 225 ≤ c by omega), if_neg (show ¬ 241 ≤ c by omega), if_neg (show ¬ c = 224 by omega), if_neg (show ¬ c = 237 by omega), if_neg (show ¬ c = 240 by omega), if_neg (show ¬ c = 244 by omega), Bool.false_eq_true, if_false]
    · by_cases c3 : c < 224
      · simp only [if_neg c1, if_neg c2, if_pos c3, if_neg (show ¬ c ≤ 127 by omega), if_pos (show 194 ≤ c by omega), if_pos (show c ≤ 223 by omega)]; rfl
      · by_cases c4 : c < 240
        · simp only [if_neg c1, if_neg c2, if_neg c3, if_pos c4, if_neg (show ¬ c ≤ 127 by omega), if_pos (show 194 ≤ c by omega), if_neg (show ¬ c ≤ 223 by omega), if_pos (show c ≤ 239 by omega)]
          by_cases d1 : c = 224
          · subst d1; simp
          · by_cases d2 : c = 237
            · subst d2; simp
            · simp [d1, d2]; omega
        · by_cases c5 : c < 245
          · simp only [if_neg c1, if_neg c2, if_neg c3, if_neg c4, if_pos c5, if_neg (show ¬ c ≤ 127 by omega), if_pos (show 194 ≤ c by omega), if_neg (show ¬ c ≤ 223 by omega), if_neg (show ¬ c ≤ 239 by omega), if_neg (show ¬ c = 224 by omega), if_neg (show ¬ c = 237 by omega), if_pos (show 225 ≤ c by omega)]
            by_cases d1 : c = 240
            · subst d1; simp
            · by_cases d2 : c = 244
              · subst d2; simp
              · rw [if_neg d1, if_pos (by omega), if_pos (by omega)]; simp [d1, d2]
          · simp only [if_neg c1, if_neg c2, if_neg c3, if_neg c4, if_neg c5, if_neg (show ¬ c ≤ 127 by omega), if_pos (show 194 ≤ c by omega), if_neg (show ¬ c ≤ 223 by omega), if_neg (show ¬ c ≤ 239 by omega), if_neg (show ¬ c = 224 by omega), if_neg (show ¬ c = 237 by omega), if_neg (show ¬ c = 240 by omega), if_neg (show ¬ c = 244 by omega), if_pos (show 225 ≤ c by omega), if_pos (show 241 ≤ c by omega), if_neg (show ¬ c ≤ 243 by omega)]

theorem i32_and31 (x : Int) (h₀ : 0 ≤ x) (h₁ : x < 256) : Go.bits .and .i32 x 31 = x % 32 := bits_mask .i32 31 (by decide) wraps_i32 5 (by decide) x h₀ (by omega)
theorem i32_and15 (x : Int) (h₀ : 0 ≤ x) (h₁ : x < 256) : Go.bits .and .i32 x 15 = x % 16 := bits_mask .i32 31 (by decide) wraps_i32 4 (by decide) x h₀ (by omega)
theorem i32_and7 (x : Int) (h₀ : 0 ≤ x) (h₁ : x < 256) : Go.bits .and .i32 x 7 = x % 8 := bits_mask .i32 31 (by decide) wraps_i32 3 (by decide) x h₀ (by omega)

theorem lead_mask {c : Int} (h : 0 ≤ c ∧ c < 256) {m : Nat} {r lo hi : Int} (e : uLead c = some (m, r, lo, hi)) (hm : m ≠ 0) :
    Go.bits .and .i32 (wrap32 c) (shr .i32 255 (wrap64 ((m : Int) + 1 + 1))) = r := by
  rw [w32 (by omega) (by omega)]
  have s1 : shr .i32 255 (wrap64 (((1 : Nat) : Int) + 1 + 1)) = 31 := by decide +kernel
  have s2 : shr .i32 255 (wrap64 (((2 : Nat) : Int) + 1 + 1)) = 15 := by decide +kernel
  have s3 : shr .i32 255 (wrap64 (((3 : Nat) : Int) + 1 + 1)) = 7 := by decide +kernel
  unfold uLead at e
  repeat' split at e
  all_goals simp at e
  all_goals obtain ⟨rfl, rfl, rfl, rfl⟩ := e
  all_goals first | exact absurd rfl hm | (rw [s1]; exact i32_and31 c h.1 h.2) | (rw [s2]; exact i32_and15 c h.1 h.2) | (rw [s3]; exact i32_and7 c h.1 h.2)

theorem rnext_l0 (xs : List Int) (hb : Byt xs) (hl : xs.length ≤ 140737488351232) : ∀ (n : Nat) (k i : Nat) (r lo hi m : Int), 0 ≤ r → (r + 1) * 64 ^ n ≤ 2147483648 → 1 ≤ i → m = (i : Int) + n → m ≤ 4 → n < k →
    gossamerref1_Next.l0 k xs m lo hi r i = some (uTail n r lo hi i (xs.drop i))
  | 0, k, i, r, lo, hi, m, _, _, h1, hm, hm3, hk => by
    obtain ⟨k, rfl⟩ : ∃ q, k = q + 1 := ⟨k - 1, by omega⟩
    simp only [gossamerref1_Next.l0, uTail]
    rw [if_neg (by omega), show m = i by omega]
  | n + 1, k, i, r, lo, hi, m, h0, hr, h1, hm, hm3, hk => by
    obtain ⟨k, rfl⟩ : ∃ q, k = q + 1 := ⟨k - 1, by omega⟩
    simp only [gossamerref1_Next.l0]
    rw [if_pos (by omega)]
    by_cases c : i < xs.length
    · have hrd := rd_byt hb i c
      have hpp : (1 : Int) ≤ 64 ^ n := by have hp : 1 ≤ 64 ^ n := Nat.one_le_pow n 64 (by omega); exact_mod_cast hp
      have hr' : (r + 1) * 64 * 64 ^ n ≤ 2147483648 := by rw [Int.mul_assoc, ← Int.pow_succ']; exact hr
      have hrb : (r + 1) * 64 ≤ 2147483648 := Int.le_trans (by have := Int.mul_le_mul_of_nonneg_left hpp (show (0 : Int) ≤ (r + 1) * 64 by omega); omega) hr'
      rw [if_neg (by omega), if_pos (by omega), if_pos (by omega), rd_drop xs i c]
      simp only [uTail]
      by_cases d1 : rd xs (i : Int) < lo
      · rw [if_pos d1, if_pos d1]
      · rw [if_neg d1, if_neg d1]
        by_cases d2 : rd xs (i : Int) > hi
        · rw [if_pos d2, if_pos d2]
        · rw [if_neg d2, if_neg d2, step6 h0 (by omega) hrd, w64 (by omega) (by omega)]
          have := rnext_l0 xs hb hl n k (i + 1) (r * 64 + rd xs (i : Int) % 64) 128 191 m (by omega) (Int.le_trans (Int.mul_le_mul_of_nonneg_right (by omega) (by omega)) hr') (by omega) (by omega) hm3 (by omega)
          rw [Int.natCast_add] at this
          exact this
    · rw [if_pos (by omega), List.drop_eq_nil_of_le (by omega)]
      rfl

theorem rnext_ok (xs : List Int) (hb : Byt xs) (hl : xs.length ≤ 140737488351232) (k : Nat) (hk : 8 ≤ k) : gossamerref1_Next.f k xs = some (uNext xs) := by
  unfold gossamerref1_Next.f
  cases xs with
  | nil => rfl
  | cons b bs =>
    rw [if_neg (by simp only [List.length_cons]; omega), if_pos (by simp only [List.length_cons]; omega)]
    have e : rd (b :: bs) 0 = b := rfl
    rw [e, seq_ok b hb.head k (by omega)]
    simp only [Option.bind_some, uNext]
    cases hl' : uLead b with
    | none => rfl
    | some x =>
      obtain ⟨m, r, lo, hi⟩ := x
      have h1 := lead_m hl'
      have h2 := lead_b hb.head hl'
      simp only
      rw [if_neg (by omega)]
      by_cases hm : m = 0
      · obtain ⟨h3, rfl⟩ := h1.2 hm
        subst hm
        simp only [uTail]
        rw [if_pos (by omega), w32 (by have := hb.head; omega) (by have := hb.head; omega)]
      · rw [if_neg (by omega), if_pos (by rw [w64 (by omega) (by omega)]; omega), lead_mask hb.head hl' hm, if_neg hm, if_neg hm]
        exact rnext_l0 (b :: bs) hb hl m k 1 r lo hi (m + 1) h2.2.1 h2.2.2 (by omega) (by omega) (by omega) (by omega)


theorem rvalid_l0 (ys : List Int) (hb : Byt ys) (hl : ys.length ≤ 140737488351232) : ∀ (n : Nat) (i : Nat) (k : Nat), ys.length ≤ i + n → i ≤ ys.length → n + 9 ≤ k → gossamerref1_Valid.l0 k ys i = some (uValid (ys.drop i))
  | n, i, k, hn, hi, hk => by
    obtain ⟨k, rfl⟩ : ∃ q, k = q + 1 := ⟨k - 1, by omega⟩
    simp only [gossamerref1_Valid.l0]
    by_cases e : i < ys.length
    · have h0 : ys.drop i ≠ [] := by intro h; have := congrArg List.length h; simp at this; omega
      have h4 := next_n _ h0
      simp only [List.length_drop] at h4
      rw [if_pos (by omega), if_pos (by omega), if_pos (by omega), Int.toNat_natCast, rnext_ok (ys.drop i) (hb.drop _) (by simp; omega) k (by omega), valid_step h0]
      simp only [Option.bind_some]
      cases (uNext (ys.drop i)).2.2 with
      | false => simp
      | true =>
        rw [if_pos rfl, Bool.true_and, w64 (by omega) (by omega), List.drop_drop]
        cases n with
        | zero => omega
        | succ n =>
          have e2 : ((i : Int) + (uNext (ys.drop i)).2.1) = ((i + (uNext (ys.drop i)).2.1.toNat : Nat) : Int) := by omega
          rw [e2]
          exact rvalid_l0 ys hb hl n _ k (by omega) (by omega) (by omega)
    · rw [if_neg (by omega), List.drop_eq_nil_of_le (by omega), valid_nil]
theorem rvalid_ok (xs : List Int) (hb : Byt xs) (hl : xs.length ≤ 140737488351232) (k : Nat) (hk : xs.length + 9 ≤ k) : gossamerref1_Valid.f k xs = some (uValid xs) :=
  rvalid_l0 xs hb hl xs.length 0 k (by omega) (by omega) hk

/-- A number, from 0 to below n. -/
def uLow (x n : Int) : Int := (x % 18446744073709551616) % n
theorem uLow_b (x n : Int) (h : 0 < n) : 0 ≤ uLow x n ∧ uLow x n < n := by
  unfold uLow
  exact ⟨Int.emod_nonneg _ (by omega), Int.emod_lt_of_pos _ h⟩
theorem low_f (x n : Int) (h : 0 < n) (h1 : n < 4611686018427387904) : gossamerlaw0_Low.f x n = some (uLow x n) := by
  have e1 : IntKind.u64.wrap n = n := by simp only [IntKind.wrap, IntKind.bits, IntKind.signed]; simp; omega
  have e2 : IntKind.u64.wrap x = x % 18446744073709551616 := by simp [IntKind.wrap, IntKind.bits, IntKind.signed]
  have hb := uLow_b x n h
  unfold gossamerlaw0_Low.f
  rw [e1, e2, if_neg (by omega), Int.tmod_eq_emod_of_nonneg (Int.emod_nonneg _ (by omega))]
  show some (wrap64 (uLow x n)) = _
  rw [w64 (by omega) (by omega)]
theorem low_c (x n : Int) (w : World) (h : 0 < n) (h1 : n < 4611686018427387904) :
    Calls Try.prog 10 #[.int .i64 x, .int .i64 n] w fun e w' => e = .returned (.int .i64 (uLow x n)) ∧ Below w.heap.size w w' :=
  (gossamerlaw0_Low.calls x n _ w (low_f x n h h1)).mono fun e w' h => ⟨h.1, h.2.below⟩

theorem bs_str {xs : List Int} (h : Byt xs) : bs (strOfNums xs) = xs := by
  unfold bs Go.Proofs.YtdbihmkeljakeaaW.PrintWords.bytesOf strOfNums
  simp only [List.map_map]
  conv => rhs; rw [← List.map_id xs]
  refine List.map_congr_left fun x hx => ?_
  have := h x hx
  simp only [Function.comp, UInt8.toNat_ofNat', id]
  omega
theorem tok_ne {xs : List Int} (h : rd xs 0 ≠ 37) : tok xs = none := by unfold tok; rw [if_neg (fun hh => h hh.2.1)]
theorem pd_ne {c : Int} (h : c ≠ 37) (t : List Int) : pd (c :: t) = c :: pd t := pd_none (by simp) (tok_ne (by simpa [rd] using h))

theorem aw_enc : pe 4 (uDec (bs ⟨#[97, 32, 98, 195, 169]⟩)) = [97, 37, 50, 48, 98, 37, 67, 51, 37, 65, 57] := by
  have e0 : bs ⟨#[97, 32, 98, 195, 169]⟩ = [97, 32, 98, 195, 169] := by decide
  have e : uDec [97, 32, 98, 195, 169] = [97, 32, 98, 233] := by
    rw [decode_step (by simp), decode_step (by simp [uNext, uLead, uTail]), decode_step (by simp [uNext, uLead, uTail]), decode_step (by simp [uNext, uLead, uTail])]; simp [uNext, uLead, uTail, decode_nil]
  rw [e0, e]
  decide
theorem aw_dec : pd (bs ⟨#[47, 97, 37, 50, 70, 37, 122, 122]⟩) = [47, 97, 47, 37, 122, 122] := by decide
theorem pdecode_f (s : ByteArray) (hs : s.size ≤ 1000000) (k : Nat) (hk : s.size + 20 ≤ k) : pct_Decode.f k s = some (pd (bs s)) := by
  have := pdec_l0 s hs s.size 0 [] k (by omega) (by simp) hk
  simpa [pct_Decode.f] using this
theorem awake_f (k : Nat) (hk : 40 ≤ k) : gossamerlaw4_awake.f k = some true := by
  have a1 : ByteArray.size ⟨#[47, 97, 37, 50, 70, 37, 122, 122]⟩ = 8 := rfl
  unfold gossamerlaw4_awake.f
  simp only [pct_Encode.f, pct_In.f]
  rw [if_pos (by decide), Option.bind_some, aw_enc, if_pos (by rw [strOfNums_toList]; decide), pdecode_f _ (by rw [a1]; omega) k (by rw [a1]; omega), Option.bind_some, aw_dec, if_pos (by rw [strOfNums_toList]; decide)]
  decide

theorem strOf_append (xs ys : List Int) : strOfNums (xs ++ ys) = strOfNums xs ++ strOfNums ys := by
  apply ByteArray.ext
  simp [strOfNums]
theorem bs_append (s t : ByteArray) : bs (s ++ t) = bs s ++ bs t := by simp [bs, Go.Proofs.YtdbihmkeljakeaaW.PrintWords.bytesOf]
theorem strOf_size (xs : List Int) : (strOfNums xs).size = xs.length := by simp [strOfNums, ByteArray.size]

theorem tok_app {xs ys : List Int} (h : 3 ≤ xs.length) : tok (xs ++ ys) = tok xs := by
  have e : ∀ i : Nat, i < 3 → rd (xs ++ ys) (i : Int) = rd xs (i : Int) := fun i hi => by
    unfold rd; simp only [Int.toNat_natCast]
    rw [List.getD_eq_getElem?_getD, List.getD_eq_getElem?_getD, List.getElem?_append_left (by omega)]
  have e0 := e 0 (by omega)
  have e1 := e 1 (by omega)
  have e2 := e 2 (by omega)
  simp only [Int.natCast_zero, Int.natCast_one, Int.cast_ofNat_Int] at e0 e1 e2
  unfold tok
  rw [e0, e1, e2, List.length_append]
  by_cases c : rd xs 0 = 37 ∧ 0 ≤ hd (rd xs 1) ∧ 0 ≤ hd (rd xs 2)
  · rw [if_pos ⟨by omega, c⟩, if_pos ⟨h, c⟩]
  · rw [if_neg (fun q => c q.2), if_neg (fun q => c q.2)]
theorem pd_app : ∀ (n : Nat) (xs ys : List Int), xs.length ≤ n → (∀ i : Nat, xs.length ≤ i + 2 → i < xs.length → rd xs (i : Int) ≠ 37) → pd (xs ++ ys) = pd xs ++ pd ys
  | 0, xs, ys, hn, _ => by
    obtain rfl : xs = [] := List.eq_nil_of_length_eq_zero (by omega)
    rfl
  | n + 1, xs, ys, hn, ht => by
    by_cases c0 : xs.length = 0
    · obtain rfl : xs = [] := List.eq_nil_of_length_eq_zero c0
      rfl
    have h0 : rd (xs ++ ys) 0 = rd xs 0 := by
      unfold rd
      rw [List.getD_eq_getElem?_getD, List.getD_eq_getElem?_getD, List.getElem?_append_left (by simp; omega)]
    have hd_ : ∀ m : Nat, m ≤ xs.length → (xs ++ ys).drop m = xs.drop m ++ ys := fun m hm => List.drop_append_of_le_length hm
    have hs : ∀ m : Nat, m ≤ xs.length → ∀ i : Nat, (xs.drop m).length ≤ i + 2 → i < (xs.drop m).length → rd (xs.drop m) (i : Int) ≠ 37 := fun m hm i h1 h2 => by
      rw [List.length_drop] at h1 h2
      have := ht (m + i) (by omega) (by omega)
      unfold rd at this ⊢
      simp only [Int.toNat_natCast] at this ⊢
      simpa using this
    cases e : tok xs with
    | some x =>
      have hl := tok_len e
      rw [pd_some e, pd_some (by rw [tok_app hl]; exact e), hd_ 3 hl, pd_app n (xs.drop 3) ys (by rw [List.length_drop]; omega) (hs 3 hl)]
      rfl
    | none =>
      have e' : tok (xs ++ ys) = none := by
        by_cases c : 3 ≤ xs.length
        · rw [tok_app c]; exact e
        · exact tok_ne (by rw [h0]; exact ht 0 (by omega) (by omega))
      rw [pd_none (by omega) e, pd_none (by simp; omega) e', hd_ 1 (by omega), pd_app n (xs.drop 1) ys (by rw [List.length_drop]; omega) (hs 1 (by omega)), h0]
      rfl
theorem pd_len : ∀ (n : Nat) (xs : List Int), xs.length ≤ n → (pd xs).length ≤ xs.length
  | 0, xs, hn => by
    obtain rfl : xs = [] := List.eq_nil_of_length_eq_zero (by omega)
    simp [pd_nil]
  | n + 1, xs, hn => by
    by_cases c0 : xs.length = 0
    · obtain rfl : xs = [] := List.eq_nil_of_length_eq_zero c0
      simp [pd_nil]
    cases e : tok xs with
    | some x =>
      have hl := tok_len e
      have := pd_len n (xs.drop 3) (by rw [List.length_drop]; omega)
      rw [List.length_drop] at this
      rw [pd_some e, List.length_cons]; omega
    | none =>
      have := pd_len n (xs.drop 1) (by rw [List.length_drop]; omega)
      rw [List.length_drop] at this
      rw [pd_none (by omega) e, List.length_cons]; omega
theorem long2 (a b : ByteArray) (k : Nat) (hk : 4 ≤ k) : ∃ r, gossamerlaw0_Long.f k 200 [a, b] = some r ∧ (r = false → a.size < 200 ∧ b.size < 200) := by
  obtain ⟨k, rfl⟩ : ∃ q, k = q + 3 := ⟨k - 3, by omega⟩
  have r0 : rdOf ByteArray.empty [a, b] 0 = a := rfl
  have r1 : rdOf ByteArray.empty [a, b] 1 = b := rfl
  unfold gossamerlaw0_Long.f
  simp only [gossamerlaw0_Long.l0, List.length_cons, List.length_nil, r0]
  rw [if_pos (by omega), if_pos (by omega)]
  by_cases c1 : (a.size : Int) ≥ 200
  · exact ⟨true, by rw [if_pos c1], by simp⟩
  · rw [if_neg c1, show wrap64 (0 + 1) = 1 from w64 (by omega) (by omega), r1, if_pos (by omega), if_pos (by omega), w64 (x := 200 - (a.size : Int)) (by omega) (by omega), w64 (x := 200 - (a.size : Int) - 1) (by omega) (by omega)]
    by_cases c2 : (b.size : Int) ≥ 200 - (a.size : Int) - 1
    · exact ⟨true, by rw [if_pos c2], by simp⟩
    · rw [if_neg c2, show wrap64 (1 + 1) = 2 from w64 (by omega) (by omega), if_neg (by omega)]
      exact ⟨false, rfl, fun _ => by omega⟩

theorem C_news (W : World) (e : TypeId) (m : Nat × Nat) (ss : List ByteArray) (hm : ss.length ≤ 1000000) : Kd.string.C (W.alloc (.cells (ss.map Value.string).toArray e m)) (some ⟨W.heap.size, 0, none⟩) ss.length ss := by
  refine Kd.C_of_reads (d := ByteArray.empty) (h1 := fun _ => rfl) ⟨rfl, by omega, fun _ => ⟨_, rfl, fun j hj => ?_⟩⟩
  have hb := blk_new W (.cells (ss.map Value.string).toArray e m)
  have := cell_of_row _ _ j _ _ _ hb
  have e2 : (⟨W.heap.size, 0, none⟩ : Addr).add j = ⟨W.heap.size, j, none⟩ := by cases j <;> simp [Addr.add]
  rw [e2, this]
  simp [hj]

attribute [local go_sem] max2_int min2_int max_two min_two
set_option maxHeartbeats 8000000 in
theorem core_PctJoins (a b : ByteArray) (n : Int) (w : World) (_h0 : a.size ≤ 140737488351232) (_h1 : b.size ≤ 140737488351232) (_h2 : (Lit.int .i64 n).wf = true) :
    Calls Try.prog 9 #[.string a, .string b, .int .i64 n] w fun e w' => e = .returned (.bool true) ∧ Below w.heap.size w w' := by
  have aw := fun w => gossamerlaw4_awake.calls 50 true w (awake_f 50 (by omega))
  have aw := Lib.hid aw
  clear _h0 _h1 _h2
  have kl : ∀ (W : World), ∃ r, (r = false → a.size < 200 ∧ b.size < 200) ∧ Calls Try.prog 21 #[.int .i64 200, .slice (some ⟨W.heap.size, 0, none⟩) 2 2] (W.alloc (.cells #[.string a, .string b] 9)) fun e w' => e = .returned (.bool r) ∧ Drawn0 (W.alloc (.cells #[.string a, .string b] 9)) w' := fun W => by
    obtain ⟨r, hr, hl⟩ := long2 a b 9 (by omega)
    exact ⟨r, hl, gossamerlaw0_Long.calls 9 200 _ 2 [a, b] r _ (C_news W 9 (0, 0) [a, b] (by simp)) (by simp) hr⟩
  obtain ⟨r, hl, kl⟩ := kl w
  cases r with
  | true =>
    clear hl
    have kl := Lib.hid kl
    go_enter Try.func9, Try.ntmps9
    go_wp2_with fail
    refine kl.out.mono ?_
    rintro e w1 ⟨rfl, hd⟩
    have hb1 := below_step (below_alloc (Below.refl _ w) (.cells #[.string a, .string b] 9)) hd.below
    clear hd
    go_wp2_with fail
    refine (aw.out _).mono ?_
    rintro e w2 ⟨rfl, hb⟩
    go_wp2_with fail
    go_ret
    exact ⟨rfl, below_step hb1 hb⟩
  | false =>
    obtain ⟨la, lb⟩ := hl rfl
    clear hl
    have kl := Lib.hid kl
    have hlA := bs_len a
    have kc := fun (w : World) (s : ByteArray) => print_bytes (P := Try.prog) 9 27 5 Try.underlying9 Try.underlying27 Try.underlying5 s w
    have kv : ∀ (W : World) (h : Nat), h = W.heap.size → Calls Try.prog 18 #[.slice (some ⟨h, 0, none⟩) a.size (grownCap W a.size 0 5)] (bytesWorld W 5 a) fun e w' => e = .returned (.bool (uValid (bs a))) ∧ Below (bytesWorld W 5 a).heap.size (bytesWorld W 5 a) w' := by
      intro W h e
      subst e
      have h1 := gossamerref1_Valid.calls 2000 (some ⟨W.heap.size, 0, none⟩) (grownCap W a.size 0 5) (bs a) (uValid (bs a)) (bytesWorld W 5 a) (bs_C W a (by omega)) (by rw [hlA]; exact grownCap_ge _ _ _ _) (rvalid_ok _ (bs_byt a) (by rw [bs_len]; omega) 2000 (by rw [bs_len]; omega))
      rw [hlA] at h1
      exact h1.mono fun e w' h => ⟨h.1, by first | exact h.2 | exact h.2.below⟩
    cases hv : uValid (bs a) with
    | false =>
      rw [hv] at kv
      clear hv hlA
      have kv := Lib.hid kv
      go_enter Try.func9, Try.ntmps9
      go_wp2_with fail
      refine kl.out.mono ?_
      rintro e w1 ⟨rfl, hd⟩
      have hB1 := below_step (below_alloc (Below.refl _ w) (.cells #[.string a, .string b] 9)) hd.below
      clear hd
      go_wp2_with fail
      refine (kv.out w1 _ (by simp)).mono ?_
      rintro e w2 ⟨rfl, hb2⟩
      have hB2 := below_step hB1 (below_step (bs_below _ a) hb2)
      clear hb2
      go_wp2_with fail
      refine (aw.out _).mono ?_
      rintro e w3 ⟨rfl, hb⟩
      go_wp2_with fail
      go_ret
      exact ⟨rfl, below_step hB2 hb⟩
    | true =>
      have hd := (decode_parts (bs_byt a) hv (bs b)).1
      rw [hv] at kv
      clear hv
      have hs : (a ++ b).size = a.size + b.size := by simp
      have l1 := low_c n 7 (w := w)
      have kLow := fun w => low_c n 7 w (by omega) (by omega)
      generalize uLow n 7 = m at *
      have kE0 := fun w => pencode_c (a ++ b) m w (by rw [hs]; omega)
      have kE1 := fun w => pencode_c a m w (by omega)
      have kE2 := fun w => pencode_c b m w (by omega)
      rw [bs_append, hd, show pe m (uDec (bs a) ++ uDec (bs b)) = pe m (uDec (bs a)) ++ pe m (uDec (bs b)) from List.flatMap_append, strOf_append] at kE0
      have q1 := pe_len m (uDec (bs a))
      have q2 := pe_len m (uDec (bs b))
      have q3 := bs_dec a
      have q4 := bs_dec b
      have z1 : (strOfNums (pe m (uDec (bs a)))).size ≤ 3000 := by rw [strOf_size]; omega
      have z2 : (strOfNums (pe m (uDec (bs b)))).size ≤ 3000 := by rw [strOf_size]; omega
      generalize strOfNums (pe m (uDec (bs a))) = t1 at *
      generalize strOfNums (pe m (uDec (bs b))) = t2 at *
      have kD0 := fun w => pdecode_c (a ++ b) w (by rw [hs]; omega)
      have kD1 := fun w => pdecode_c a w (by omega)
      have kD2 := fun w => pdecode_c b w (by omega)
      have hpa : (∀ i : Nat, a.size ≤ i + 2 → i < a.size → bt a (i : Int) ≠ 37) → pd (bs (a ++ b)) = pd (bs a) ++ pd (bs b) := fun h => by
        rw [bs_append]
        exact pd_app _ (bs a) (bs b) (Nat.le_refl _) (fun i h1 h2 => by rw [rd_bytesOf]; rw [bs_len] at h1 h2; exact h i h1 h2)
      have x1 := pd_len _ (bs a) (Nat.le_refl _)
      have x2 := pd_len _ (bs b) (Nat.le_refl _)
      rw [bs_len] at x1 x2
      clear q1 q2 q3 q4 hd l1 hlA hs
      have kLow := Lib.hid kLow
      have kv := Lib.hid kv
      have kE0 := Lib.hid kE0
      have kE1 := Lib.hid kE1
      have kE2 := Lib.hid kE2
      have hmx : (if (0 : Int) < (a.size : Int) - 2 then (a.size : Int) - 2 else 0) = ((a.size - 2 : Nat) : Int) := by split <;> omega
      have hbt := bt_at a
      have hby := bt_byt a
      have hpa := Lib.hid hpa
      have hbt := Lib.hid hbt
      have hby := Lib.hid hby
      have neq : ((t1 ++ t2).toList != (t1 ++ t2).toList) = false := by simp
      go_enter Try.func9, Try.ntmps9
      go_wp2_with fail
      refine kl.out.mono ?_
      rintro e w1 ⟨rfl, hd⟩
      have hB1 := below_step (below_alloc (Below.refl _ w) (.cells #[.string a, .string b] 9)) hd.below
      clear hd kl
      go_wp2_with fail
      refine (kv.out w1 _ (by simp)).mono ?_
      rintro e w2 ⟨rfl, hb2⟩
      have hB2 := below_step hB1 (below_step (bs_below _ a) hb2)
      clear hb2 hB1 kv kc
      go_wp2_with fail
      refine (kLow.out w2).mono ?_
      rintro e w3 ⟨rfl, h3⟩
      have hB3 := below_step hB2 h3
      clear h3 hB2 kLow
      go_wp2_with fail
      refine (kE0.out w3).mono ?_
      rintro e w4 ⟨rfl, h4⟩
      have hB4 := below_step hB3 h4
      clear h4 hB3 kE0
      go_wp2_with fail
      refine (kE1.out w4).mono ?_
      rintro e w5 ⟨rfl, h5⟩
      have hB5 := below_step hB4 h5
      clear h5 hB4 kE1
      go_wp2_with fail
      refine (kE2.out w5).mono ?_
      rintro e w6 ⟨rfl, h6⟩
      have hB6 := Aside0.mk (below_step hB5 h6)
      clear h6 hB5 kE2
      go_wp2_with fail
      all_goals
        go_loopw [8] (fun i W => ∃ k : Nat, a.size ≤ k + 2 ∧ k ≤ a.size ∧ i = .int .i64 k ∧ Hid (∀ i : Nat, a.size ≤ i + 2 → i < k → bt a (i : Int) ≠ 37) ∧ Aside0 (Below w.heap.size w W)) (fun i _ => a.size - (RowKit.intOf i).toNat)
        case atStart => exact ⟨a.size - 2, by omega, by omega, by go_num, Lib.hid (fun i h1 h2 => by omega), hB6⟩
        case round =>
          clear hB6
          obtain ⟨W, hW⟩ : ∃ x, x = wr := ⟨_, rfl⟩
          subst hW
          obtain ⟨k, hk0, hk, rfl, hno, hB⟩ := hrel
          by_cases hlt : k < a.size
          · have dlt : decide ((k : Int) < (a.size : Int)) = true := decide_eq_true (by omega)
            have hx := hbt.out (k : Int)
            simp only [Int.toNat_natCast] at hx
            have hby1 := hby.out (k : Int)
            by_cases c37 : bt a (k : Int) = 37
            · rw [c37] at hx
              clear hby1 hno
              go_wp2_with fail
              refine (aw.out W).mono ?_
              rintro e w7 ⟨rfl, h7⟩
              have hB7 := below_step hB.out h7
              clear h7
              go_wp2_with fail
              go_ret
              exact ⟨rfl, hB7⟩
            · have hno' : Hid (∀ i : Nat, a.size ≤ i + 2 → i < k + 1 → bt a (i : Int) ≠ 37) := Lib.hid (fun i h1 h2 => by
                by_cases e : i = k
                · subst e; exact c37
                · exact hno.out i h1 (by omega))
              generalize bt a (k : Int) = x at *
              have e37 : ((x : Int) == 37) = false := by simpa using c37
              have d37 : decide (x = 37) = false := by simpa using c37
              go_wp2
              exact ⟨⟨k + 1, by omega, by omega, by go_num, hno', hB⟩, by simp [RowKit.intOf]; omega⟩
          · obtain rfl : k = a.size := by omega
            have dlt : decide ((a.size : Int) < (a.size : Int)) = false := decide_eq_false (by omega)
            have hpd := hpa.out (hno.out)
            clear hpa hno hbt hby
            rw [hpd] at kD0
            clear hpd
            have hB := hB.out
            generalize pd (bs a) = x at *
            generalize pd (bs b) = y at *
            have y1 : (strOfNums x).size ≤ 200 := by rw [strOf_size]; omega
            have y2 : (strOfNums y).size ≤ 200 := by rw [strOf_size]; omega
            have heq : ((strOfNums (x ++ y)).toList == (strOfNums x ++ strOfNums y).toList) = true := by rw [strOf_append]; simp
            obtain ⟨xy, hxy⟩ : ∃ z, z = x ++ y := ⟨_, rfl⟩
            rw [← hxy] at kD0 heq
            clear hxy
            have kD0 := Lib.hid kD0
            have kD1 := Lib.hid kD1
            have kD2 := Lib.hid kD2
            clear neq hmx z1 z2
            go_wp2_with fail
            go_region_with (first
              | (go_at_call 16; (with_reducible refine (kD0.out _).mono ?_); rintro e w2 ⟨v0, rfl, hr, h2⟩; obtain ⟨A0, c0, rfl, -, hD0⟩ := Kd.R_reads hr; have hB : Below w.heap.size w w2 := (by first | exact below_step hB h2 | exact below_step (below_drew1 hB) h2); have f0 := Kd.C_string (c := c0) Try.underlying27 Try.underlying5 Try.underlying9 hD0; (try (have hD1 := (by first | exact Kd.C_below hD1 h2 | exact Kd.C_below (Kd.C_drew hD1) h2 : Kd.C (Kd.int .u8) w2 A1 x.length x); have f1 := Kd.C_string (c := c1) Try.underlying27 Try.underlying5 Try.underlying9 hD1)); (try (have hD2 := (by first | exact Kd.C_below hD2 h2 | exact Kd.C_below (Kd.C_drew hD2) h2 : Kd.C (Kd.int .u8) w2 A2 y.length y); have f2 := Kd.C_string (c := c2) Try.underlying27 Try.underlying5 Try.underlying9 hD2)))
              | (go_at_call 16; (with_reducible refine (kD1.out _).mono ?_); rintro e w2 ⟨v1, rfl, hr, h2⟩; obtain ⟨A1, c1, rfl, -, hD1⟩ := Kd.R_reads hr; have hB : Below w.heap.size w w2 := (by first | exact below_step hB h2 | exact below_step (below_drew1 hB) h2); have f1 := Kd.C_string (c := c1) Try.underlying27 Try.underlying5 Try.underlying9 hD1; (try (have hD0 := (by first | exact Kd.C_below hD0 h2 | exact Kd.C_below (Kd.C_drew hD0) h2 : Kd.C (Kd.int .u8) w2 A0 xy.length xy); have f0 := Kd.C_string (c := c0) Try.underlying27 Try.underlying5 Try.underlying9 hD0)); (try (have hD2 := (by first | exact Kd.C_below hD2 h2 | exact Kd.C_below (Kd.C_drew hD2) h2 : Kd.C (Kd.int .u8) w2 A2 y.length y); have f2 := Kd.C_string (c := c2) Try.underlying27 Try.underlying5 Try.underlying9 hD2)))
              | (go_at_call 16; (with_reducible refine (kD2.out _).mono ?_); rintro e w2 ⟨v2, rfl, hr, h2⟩; obtain ⟨A2, c2, rfl, -, hD2⟩ := Kd.R_reads hr; have hB : Below w.heap.size w w2 := (by first | exact below_step hB h2 | exact below_step (below_drew1 hB) h2); have f2 := Kd.C_string (c := c2) Try.underlying27 Try.underlying5 Try.underlying9 hD2; (try (have hD0 := (by first | exact Kd.C_below hD0 h2 | exact Kd.C_below (Kd.C_drew hD0) h2 : Kd.C (Kd.int .u8) w2 A0 xy.length xy); have f0 := Kd.C_string (c := c0) Try.underlying27 Try.underlying5 Try.underlying9 hD0)); (try (have hD1 := (by first | exact Kd.C_below hD1 h2 | exact Kd.C_below (Kd.C_drew hD1) h2 : Kd.C (Kd.int .u8) w2 A1 x.length x); have f1 := Kd.C_string (c := c1) Try.underlying27 Try.underlying5 Try.underlying9 hD1)))
              | (go_at_call 13; refine (aw.out _).mono ?_; rintro e w3 ⟨rfl, h3⟩; have hB : Below w.heap.size w w3 := (by first | exact below_step hB h3 | exact below_step (below_drew1 hB) h3)))
            all_goals (go_wp2; go_ret; exact ⟨rfl, hB⟩)

end Go.Proofs.Ytdbihmkeljakeaa.LinkPct
