/- Lemmas of the session on the law PctTells. -/
import Derived.Test.YtdbihmkeljakeaaUs
import Derived.Test.YtdbihmkeljakeaaPPctTellsx2
import Derived.Test.YtdbihmkeljakeaaPPctTellsx3
import Derived.Test.YtdbihmkeljakeaaPPctTellsx4
import Derived.Test.YtdbihmkeljakeaaPPctTellsx5
import Derived.Test.YtdbihmkeljakeaaPPctTellsx6
import Derived.Lib.Bytes
import Derived.Lib.ConvBytes
namespace Go.Proofs.Ytdbihmkeljakeaa.LinkPctTells
open Go Go.RowKit Go.Proofs.Ytdbihmkeljakeaa Go.Proofs.Ytdbihmkeljakeaa.PPctTells Go.Proofs.YtdbihmkeljakeaaW.PrintWords Go.Proofs.YtdbihmkeljakeaaW.PrintLast Go.Proofs.YtdbihmkeljakeaaW.PrintMore Go.Proofs.Ytdbihmkeljakeaa.Utf Go.Lib
set_option linter.unusedVariables false
set_option linter.unusedSimpArgs false
set_option maxRecDepth 100000
theorem w32 {x : Int} (h0 : -2147483648 ≤ x) (h : x < 2147483648) : wrap32 x = x := by unfold wrap32; omega
theorem w64 {x : Int} (h0 : -9223372036854775808 ≤ x) (h : x < 9223372036854775808) : wrap64 x = x := by unfold wrap64; omega
theorem rd_drop (xs : List Int) (i : Nat) (h : i < xs.length) : xs.drop i = rd xs (i : Int) :: xs.drop (i + 1) := by
  have e : rd xs (i : Int) = xs[i] := by unfold rd; simp [h]
  rw [e]; exact List.drop_eq_getElem_cons h
theorem rd_byt {xs : List Int} (hb : Byt xs) (i : Nat) (h : i < xs.length) : 0 ≤ rd xs (i : Int) ∧ rd xs (i : Int) < 256 := by
  have e : rd xs (i : Int) = xs[i] := by unfold rd; simp [h]
  rw [e]; exact hb _ (List.getElem_mem h)
theorem step6 {r b : Int} (r0 : 0 ≤ r) (r1 : r < 33554432) (b0 : 0 ≤ b ∧ b < 256) : Go.bits .or .i32 (wrap32 (r * 64)) (wrap32 (Go.bits .and .u8 b 63)) = r * 64 + b % 64 := by
  rw [u8_and63 _ b0.1 b0.2, w32 (by omega) (by omega), w32 (by omega) (by omega), i32_or6 _ _ (by omega) (by omega) (by omega) (by omega) (by omega)]

theorem leads_ok (c : Int) (h : 0 ≤ c ∧ c < 256) (k : Nat) (hk : 4 ≤ k) :
    utf_leads.f k c = some (match uLead c with | none => (0, 0, 0, 0, false) | some (m, r, lo, hi) => ((m : Int), r, lo, hi, true)) := by
  obtain ⟨k, rfl⟩ : ∃ m, k = m + 4 := ⟨k - 4, by omega⟩
  have a31 := u8_and31 _ h.1 h.2
  have a15 := u8_and15 _ h.1 h.2
  have a7 := u8_and7 _ h.1 h.2
  have w1 : wrap32 c = c := w32 (by omega) (by omega)
  have w2 : wrap32 (c % 32) = c % 32 := w32 (by omega) (by omega)
  have w3 : wrap32 (c % 16) = c % 16 := w32 (by omega) (by omega)
  have w4 : wrap32 (c % 8) = c % 8 := w32 (by omega) (by omega)
  unfold utf_leads.f uLead
  simp only [utf_leads.j0, utf_leads.j1, utf_leads.j2, a31, a15, a7, w1, w2, w3, w4, decide_eq_true_eq, ge_iff_le]
  by_cases c1 : c < 128
  · simp only [if_pos c1]; rfl
  · by_cases c2 : c < 194
    · simp only [if_neg c1, if_pos c2, if_neg (show ¬ 194 ≤ c by omega), if_neg (show ¬ 224 ≤ c by omega), if_neg (show ¬ 240 ≤ c by omega), Bool.false_eq_true, if_false]
    · by_cases c3 : c < 224
      · simp only [if_neg c1, if_neg c2, if_pos c3, if_pos (show 194 ≤ c by omega), if_pos (show c ≤ 223 by omega)]; rfl
      · by_cases c4 : c < 240
        · simp only [if_neg c1, if_neg c2, if_neg c3, if_pos c4, if_pos (show 194 ≤ c by omega), if_neg (show ¬ c ≤ 223 by omega), if_pos (show 224 ≤ c by omega), if_pos (show c ≤ 239 by omega)]
          by_cases d1 : c = 224
          · subst d1; simp
          · by_cases d2 : c = 237
            · subst d2; simp
            · simp [d1, d2]
        · by_cases c5 : c < 245
          · simp only [if_neg c1, if_neg c2, if_neg c3, if_neg c4, if_pos c5, if_pos (show 194 ≤ c by omega), if_neg (show ¬ c ≤ 223 by omega), if_pos (show 224 ≤ c by omega), if_neg (show ¬ c ≤ 239 by omega), if_pos (show 240 ≤ c by omega), if_pos (show c ≤ 244 by omega)]
            by_cases d1 : c = 240
            · subst d1; simp
            · by_cases d2 : c = 244
              · subst d2; simp
              · simp [d1, d2]
          · simp only [if_neg c1, if_neg c2, if_neg c3, if_neg c4, if_neg c5, if_pos (show 194 ≤ c by omega), if_neg (show ¬ c ≤ 223 by omega), if_pos (show 224 ≤ c by omega), if_neg (show ¬ c ≤ 239 by omega), if_pos (show 240 ≤ c by omega), if_neg (show ¬ c ≤ 244 by omega)]

theorem lead_b {c : Int} (h : 0 ≤ c ∧ c < 256) {m : Nat} {r lo hi : Int} (e : uLead c = some (m, r, lo, hi)) : m ≤ 3 ∧ 0 ≤ r ∧ (r + 1) * 64 ^ m ≤ 2147483648 := by
  unfold uLead at e
  repeat' split at e
  all_goals simp at e
  all_goals obtain ⟨rfl, rfl, rfl, rfl⟩ := e
  all_goals (refine ⟨by omega, by omega, by omega⟩)

theorem next_l0 (xs : List Int) (hb : Byt xs) (hl : xs.length ≤ 140737488351232) : ∀ (n : Nat) (k i : Nat) (r lo hi m bits : Int), 0 ≤ r → (r + 1) * 64 ^ n ≤ 2147483648 → 1 ≤ i → m + 1 = (i : Int) + n → m ≤ 3 → n < k →
    utf_Next.l0 k xs r i m bits lo hi = some (uTail n r lo hi i (xs.drop i))
  | 0, k, i, r, lo, hi, m, bits, _, _, h1, hm, hm3, hk => by
    obtain ⟨k, rfl⟩ : ∃ q, k = q + 1 := ⟨k - 1, by omega⟩
    simp only [utf_Next.l0, uTail]
    rw [if_neg (by omega), w64 (by omega) (by omega), show (1 : Int) + m = i by omega]
  | n + 1, k, i, r, lo, hi, m, bits, h0, hr, h1, hm, hm3, hk => by
    obtain ⟨k, rfl⟩ : ∃ q, k = q + 1 := ⟨k - 1, by omega⟩
    simp only [utf_Next.l0]
    rw [if_pos (by omega)]
    by_cases c : i < xs.length
    · have hrd := rd_byt hb i c
      have hpp : (1 : Int) ≤ 64 ^ n := by have hp : 1 ≤ 64 ^ n := Nat.one_le_pow n 64 (by omega); exact_mod_cast hp
      have hr' : (r + 1) * 64 * 64 ^ n ≤ 2147483648 := by rw [Int.mul_assoc, ← Int.pow_succ']; exact hr
      have hrb : (r + 1) * 64 ≤ 2147483648 := Int.le_trans (by have := Int.mul_le_mul_of_nonneg_left hpp (show (0 : Int) ≤ (r + 1) * 64 by omega); omega) hr'
      rw [if_neg (by omega), if_pos (by omega), if_pos (by omega), rd_drop xs i c]
      simp only [uTail]
      by_cases d1 : rd xs (i : Int) < lo
      · rw [if_pos d1, if_pos d1]
      · rw [if_neg d1, if_neg d1]
        by_cases d2 : rd xs (i : Int) > hi
        · rw [if_pos d2, if_pos d2]
        · rw [if_neg d2, if_neg d2, step6 h0 (by omega) hrd, w64 (by omega) (by omega)]
          have := next_l0 xs hb hl n k (i + 1) (r * 64 + rd xs (i : Int) % 64) 128 191 m bits (by omega) (Int.le_trans (Int.mul_le_mul_of_nonneg_right (by omega) (by omega)) hr') (by omega) (by omega) hm3 (by omega)
          rw [Int.natCast_add] at this
          exact this
    · rw [if_pos (by omega), List.drop_eq_nil_of_le (by omega)]
      rfl

theorem next_ok (xs : List Int) (hb : Byt xs) (hl : xs.length ≤ 140737488351232) (k : Nat) (hk : 8 ≤ k) : utf_Next.f k xs = some (uNext xs) := by
  unfold utf_Next.f
  cases xs with
  | nil => rfl
  | cons b bs =>
    rw [if_neg (by simp only [List.length_cons]; omega), if_pos (by simp only [List.length_cons]; omega)]
    have e : rd (b :: bs) 0 = b := rfl
    rw [e, leads_ok b hb.head k (by omega)]
    simp only [Option.bind_some, uNext]
    cases hl' : uLead b with
    | none => rfl
    | some x =>
      obtain ⟨m, r, lo, hi⟩ := x
      have := lead_b hb.head hl'
      simp only [if_true]
      exact next_l0 (b :: bs) hb hl m k 1 r lo hi m r this.2.1 this.2.2 (by omega) (by omega) (by omega) (by omega)


theorem decode_l0 : ∀ (n : Nat) (xs acc : List Int) (k : Nat), xs.length ≤ n → Byt xs → acc.length + xs.length ≤ 1000000000 → n + 9 ≤ k → utf_Decode.l0 k xs acc = some (acc ++ uDec xs)
  | n, xs, acc, k, hn, hb, hl, hk => by
    obtain ⟨k, rfl⟩ : ∃ q, k = q + 1 := ⟨k - 1, by omega⟩
    simp only [utf_Decode.l0]
    by_cases e : xs = []
    · subst e; rw [decode_nil]; simp
    · have hp := List.length_pos_iff.2 e
      have h4 := next_n xs e
      rw [if_pos (by omega), next_ok xs hb (by omega) k (by omega), decode_step e]
      simp only [Option.bind_some]
      rw [if_pos (by omega), if_pos (by omega), if_pos (by omega)]
      cases n with
      | zero => omega
      | succ n =>
        rw [decode_l0 n _ _ k (by simp only [List.length_drop]; omega) (hb.drop _) (by simp only [List.length_drop, List.length_append, List.length_cons, List.length_nil]; omega) (by omega)]
        simp
theorem decode_ok (xs : List Int) (hb : Byt xs) (hl : xs.length ≤ 1000000000) (k : Nat) (hk : xs.length + 9 ≤ k) : utf_Decode.f k xs = some (uDec xs) := by
  have := decode_l0 xs.length xs [] k (Nat.le_refl _) hb (by simp; omega) hk
  simpa [utf_Decode.f] using this

theorem more_ok (r : Int) (h : 0 ≤ r ∧ r < 2147483648) : utf_more.f r = some (128 + r % 64) := by
  unfold utf_more.f
  have e : Go.bits .and .i32 r 63 = r % 64 := bits_mask .i32 31 (by decide) wraps_i32 6 (by decide) r h.1 (by omega)
  rw [e, show r % 64 % 256 = r % 64 by omega, u8_or128 _ (by omega) (by omega)]
theorem add_ok (out : List Int) (r : Int) (hr : -2147483648 ≤ r ∧ r < 2147483648) (hl : out.length ≤ 140737488351232) (k : Nat) (hk : 3 ≤ k) : utf_add.f k out r = some (out ++ uPt (uFix r)) := by
  obtain ⟨k, rfl⟩ : ∃ m, k = m + 3 := ⟨k - 3, by omega⟩
  have main : ∀ (r : Int) (k : Nat), Scal r → utf_add.j1 (k + 1) out r = some (out ++ uPt r) := by
    intro r k ⟨h0, h1, _⟩
    simp only [utf_add.j1]
    unfold uPt
    by_cases c1 : r < 128
    · rw [if_pos c1, if_pos c1, if_pos (by omega), show r % 256 = r by omega]
    · rw [if_neg c1, if_neg c1]
      by_cases c2 : r < 2048
      · rw [if_pos c2, if_pos c2, more_ok r (by omega), show r / 64 % 256 = r / 64 by omega, u8_or192 _ (by omega) (by omega)]
        simp only [Option.bind_some, List.length_cons, List.length_nil]
        rw [if_pos (by omega)]
      · rw [if_neg c2, if_neg c2]
        by_cases c3 : r < 65536
        · rw [if_pos c3, if_pos c3, more_ok r (by omega), more_ok _ (by omega), show r / 4096 % 256 = r / 4096 by omega, u8_or224 _ (by omega) (by omega)]
          simp only [Option.bind_some, List.length_cons, List.length_nil]
          rw [if_pos (by omega)]
        · rw [if_neg c3, if_neg c3, more_ok r (by omega), more_ok _ (by omega), more_ok _ (by omega), show r / 262144 % 256 = r / 262144 by omega, u8_or240 _ (by omega) (by omega)]
          simp only [Option.bind_some, List.length_cons, List.length_nil]
          rw [if_pos (by omega)]
  have m1 := main 65533 k ⟨by omega, by omega, by omega⟩
  have m2 := main 65533 (k + 1) ⟨by omega, by omega, by omega⟩
  unfold utf_add.f uFix
  simp only [utf_add.j0]
  by_cases c1 : r < 0
  · rw [if_pos c1, if_pos c1, if_pos trivial, main _ _ ⟨by omega, by omega, by omega⟩]
  · rw [if_neg c1, if_neg c1]
    by_cases c2 : r > 1114111
    · rw [if_pos c2, if_pos c2, if_pos trivial, main _ _ ⟨by omega, by omega, by omega⟩]
    · rw [if_neg c2, if_neg c2]
      by_cases c3 : r ≥ 55296
      · rw [if_pos c3]
        by_cases c4 : r ≤ 57343
        · rw [if_pos (by simpa using c4), if_pos ⟨c3, c4⟩, main _ _ ⟨by omega, by omega, by omega⟩]
        · rw [if_neg (by simpa using c4), if_neg (by omega), main _ _ ⟨by omega, by omega, by omega⟩]
      · rw [if_neg c3, if_neg (by simp), if_neg (by omega), main _ _ ⟨by omega, by omega, by omega⟩]

/-- Each number is one of 32 bits. -/
def R32 (xs : List Int) : Prop := ∀ x ∈ xs, -2147483648 ≤ x ∧ x < 2147483648
theorem R32.of_wf {xs : List Int} (h : ∀ x ∈ xs, (Lit.int .i32 x).wf = true) : R32 xs := fun x hx => by
  have := h x hx
  have h8 : IntKind.i32.min = -2147483648 := by decide
  have h9 : IntKind.i32.max = 2147483647 := by decide
  simp [Lit.wf] at this
  omega
theorem R32.scal {xs : List Int} (h : ∀ x ∈ xs, Scal x) : R32 xs := fun x hx => by have := h x hx; unfold Scal at this; omega
theorem encode_l0 (rs : List Int) (hb : R32 rs) (hl : rs.length ≤ 1000000000) : ∀ (n : Nat) (i : Nat) (acc : List Int) (k : Nat), rs.length = i + n → acc.length ≤ 4 * i → n + 4 ≤ k → utf_Encode.l0 k acc rs rs.length i = some (acc ++ uEnc (rs.drop i))
  | 0, i, acc, k, hn, ha, hk => by
    obtain ⟨k, rfl⟩ : ∃ q, k = q + 1 := ⟨k - 1, by omega⟩
    simp only [utf_Encode.l0]
    rw [if_neg (by omega), List.drop_eq_nil_of_le (by omega), encode_nil, List.append_nil]
  | n + 1, i, acc, k, hn, ha, hk => by
    obtain ⟨k, rfl⟩ : ∃ q, k = q + 1 := ⟨k - 1, by omega⟩
    simp only [utf_Encode.l0]
    have hc : i < rs.length := by omega
    have e : rd rs (i : Int) = rs[i] := by unfold rd; simp [hc]
    have hm : -2147483648 ≤ rd rs (i : Int) ∧ rd rs (i : Int) < 2147483648 := by rw [e]; exact hb _ (List.getElem_mem hc)
    have h4 := @enc_len (uFix (rd rs (i : Int)))
    rw [if_pos (by omega), if_pos (by omega), if_pos (by omega), add_ok acc _ hm (by omega) k (by omega)]
    simp only [Option.bind_some]
    rw [w64 (by omega) (by omega)]
    have := encode_l0 rs hb hl n (i + 1) (acc ++ uPt (uFix (rd rs (i : Int)))) k (by omega) (by simp only [List.length_append]; omega) (by omega)
    rw [Int.natCast_add] at this
    refine this.trans ?_
    rw [rd_drop rs i hc, encode_cons, List.append_assoc]
theorem encode_ok (rs : List Int) (hb : R32 rs) (hl : rs.length ≤ 1000000000) (k : Nat) (hk : rs.length + 4 ≤ k) : utf_Encode.f k rs = some (uEnc rs) := by
  have := encode_l0 rs hb hl rs.length 0 [] k (by omega) (by simp) hk
  simpa [utf_Encode.f] using this
theorem decode_r32 {xs : List Int} (hb : Byt xs) : R32 (uDec xs) := R32.scal (decode_scals hb)

theorem seq_ok (c : Int) (h : 0 ≤ c ∧ c < 256) (k : Nat) (hk : 4 ≤ k) :
    gossamerref1_seq.f k c = some (match uLead c with | none => (0, 0, 0) | some (m, r, lo, hi) => ((m : Int) + 1, if m = 0 then 0 else lo, if m = 0 then 0 else hi)) := by
  obtain ⟨k, rfl⟩ : ∃ m, k = m + 4 := ⟨k - 4, by omega⟩
  unfold gossamerref1_seq.f uLead
  simp only [gossamerref1_seq.j0, gossamerref1_seq.j1, gossamerref1_seq.j2, decide_eq_true_eq, ge_iff_le]
  by_cases c1 : c < 128
  · simp only [if_pos c1, if_pos (show c ≤ 127 by omega)]; rfl
  · by_cases c2 : c < 194
    · simp only [if_neg c1, if_pos c2, if_neg (show ¬ c ≤ 127 by omega), if_neg (show ¬ 194 ≤ c by omega), if_neg (show ¬ 225 ≤ c by omega), if_neg (show ¬ 241 ≤ c by omega), if_neg (show ¬ c = 224 by omega), if_neg (show ¬ c = 237 by omega), if_neg (show ¬ c = 240 by omega), if_neg (show ¬ c = 244 by omega), Bool.false_eq_true, if_false]
    · by_cases c3 : c < 224
      · simp only [if_neg c1, if_neg c2, if_pos c3, if_neg (show ¬ c ≤ 127 by omega), if_pos (show 194 ≤ c by omega), if_pos (show c ≤ 223 by omega)]; rfl
      · by_cases c4 : c < 240
        · simp only [if_neg c1, if_neg c2, if_neg c3, if_pos c4, if_neg (show ¬ c ≤ 127 by omega), if_pos (show 194 ≤ c by omega), if_neg (show ¬ c ≤ 223 by omega), if_pos (show c ≤ 239 by omega)]
          by_cases d1 : c = 224
          · subst d1; simp
          · by_cases d2 : c = 237
            · subst d2; simp
            · simp [d1, d2]; omega
        · by_cases c5 : c < 245
          · simp only [if_neg c1, if_neg c2, if_neg c3, if_neg c4, if_pos c5, if_neg (show ¬ c ≤ 127 by omega), if_pos (show 194 ≤ c by omega), if_neg (show ¬ c ≤ 223 by omega), if_neg (show ¬ c ≤ 239 by omega), if_neg (show ¬ c = 224 by omega), if_neg (show ¬ c = 237 by omega), if_pos (show 225 ≤ c by omega)]
            by_cases d1 : c = 240
            · subst d1; simp
            · by_cases d2 : c = 244
              · subst d2; simp
              · rw [if_neg d1, if_pos (by omega), if_pos (by omega)]; simp [d1, d2]
          · simp only [if_neg c1, if_neg c2, if_neg c3, if_neg c4, if_neg c5, if_neg (show ¬ c ≤ 127 by omega), if_pos (show 194 ≤ c by omega), if_neg (show ¬ c ≤ 223 by omega), if_neg (show ¬ c ≤ 239 by omega), if_neg (show ¬ c = 224 by omega), if_neg (show ¬ c = 237 by omega), if_neg (show ¬ c = 240 by omega), if_neg (show ¬ c = 244 by omega), if_pos (show 225 ≤ c by omega), if_pos (show 241 ≤ c by omega), if_neg (show ¬ c ≤ 243 by omega)]

theorem i32_and31 (x : Int) (h₀ : 0 ≤ x) (h₁ : x < 256) : Go.bits .and .i32 x 31 = x % 32 := bits_mask .i32 31 (by decide) wraps_i32 5 (by decide) x h₀ (by omega)
theorem i32_and15 (x : Int) (h₀ : 0 ≤ x) (h₁ : x < 256) : Go.bits .and .i32 x 15 = x % 16 := bits_mask .i32 31 (by decide) wraps_i32 4 (by decide) x h₀ (by omega)
theorem i32_and7 (x : Int) (h₀ : 0 ≤ x) (h₁ : x < 256) : Go.bits .and .i32 x 7 = x % 8 := bits_mask .i32 31 (by decide) wraps_i32 3 (by decide) x h₀ (by omega)

theorem lead_mask {c : Int} (h : 0 ≤ c ∧ c < 256) {m : Nat} {r lo hi : Int} (e : uLead c = some (m, r, lo, hi)) (hm : m ≠ 0) :
    Go.bits .and .i32 (wrap32 c) (shr .i32 255 (wrap64 ((m : Int) + 1 + 1))) = r := by
  rw [w32 (by omega) (by omega)]
  have s1 : shr .i32 255 (wrap64 (((1 : Nat) : Int) + 1 + 1)) = 31 := by decide +kernel
  have s2 : shr .i32 255 (wrap64 (((2 : Nat) : Int) + 1 + 1)) = 15 := by decide +kernel
  have s3 : shr .i32 255 (wrap64 (((3 : Nat) : Int) + 1 + 1)) = 7 := by decide +kernel
  unfold uLead at e
  repeat' split at e
  all_goals simp at e
  all_goals obtain ⟨rfl, rfl, rfl, rfl⟩ := e
  all_goals first | exact absurd rfl hm | (rw [s1]; exact i32_and31 c h.1 h.2) | (rw [s2]; exact i32_and15 c h.1 h.2) | (rw [s3]; exact i32_and7 c h.1 h.2)

theorem rnext_l0 (xs : List Int) (hb : Byt xs) (hl : xs.length ≤ 140737488351232) : ∀ (n : Nat) (k i : Nat) (r lo hi m : Int), 0 ≤ r → (r + 1) * 64 ^ n ≤ 2147483648 → 1 ≤ i → m = (i : Int) + n → m ≤ 4 → n < k →
    gossamerref1_Next.l0 k xs m lo hi r i = some (uTail n r lo hi i (xs.drop i))
  | 0, k, i, r, lo, hi, m, _, _, h1, hm, hm3, hk => by
    obtain ⟨k, rfl⟩ : ∃ q, k = q + 1 := ⟨k - 1, by omega⟩
    simp only [gossamerref1_Next.l0, uTail]
    rw [if_neg (by omega), show m = i by omega]
  | n + 1, k, i, r, lo, hi, m, h0, hr, h1, hm, hm3, hk => by
    obtain ⟨k, rfl⟩ : ∃ q, k = q + 1 := ⟨k - 1, by omega⟩
    simp only [gossamerref1_Next.l0]
    rw [if_pos (by omega)]
    by_cases c : i < xs.length
    · have hrd := rd_byt hb i c
      have hpp : (1 : Int) ≤ 64 ^ n := by have hp : 1 ≤ 64 ^ n := Nat.one_le_pow n 64 (by omega); exact_mod_cast hp
      have hr' : (r + 1) * 64 * 64 ^ n ≤ 2147483648 := by rw [Int.mul_assoc, ← Int.pow_succ']; exact hr
      have hrb : (r + 1) * 64 ≤ 2147483648 := Int.le_trans (by have := Int.mul_le_mul_of_nonneg_left hpp (show (0 : Int) ≤ (r + 1) * 64 by omega); omega) hr'
      rw [if_neg (by omega), if_pos (by omega), if_pos (by omega), rd_drop xs i c]
      simp only [uTail]
      by_cases d1 : rd xs (i : Int) < lo
      · rw [if_pos d1, if_pos d1]
      · rw [if_neg d1, if_neg d1]
        by_cases d2 : rd xs (i : Int) > hi
        · rw [if_pos d2, if_pos d2]
        · rw [if_neg d2, if_neg d2, step6 h0 (by omega) hrd, w64 (by omega) (by omega)]
          have := rnext_l0 xs hb hl n k (i + 1) (r * 64 + rd xs (i : Int) % 64) 128 191 m (by omega) (Int.le_trans (Int.mul_le_mul_of_nonneg_right (by omega) (by omega)) hr') (by omega) (by omega) hm3 (by omega)
          rw [Int.natCast_add] at this
          exact this
    · rw [if_pos (by omega), List.drop_eq_nil_of_le (by omega)]
      rfl

theorem rnext_ok (xs : List Int) (hb : Byt xs) (hl : xs.length ≤ 140737488351232) (k : Nat) (hk : 8 ≤ k) : gossamerref1_Next.f k xs = some (uNext xs) := by
  unfold gossamerref1_Next.f
  cases xs with
  | nil => rfl
  | cons b bs =>
    rw [if_neg (by simp only [List.length_cons]; omega), if_pos (by simp only [List.length_cons]; omega)]
    have e : rd (b :: bs) 0 = b := rfl
    rw [e, seq_ok b hb.head k (by omega)]
    simp only [Option.bind_some, uNext]
    cases hl' : uLead b with
    | none => rfl
    | some x =>
      obtain ⟨m, r, lo, hi⟩ := x
      have h1 := lead_m hl'
      have h2 := lead_b hb.head hl'
      simp only
      rw [if_neg (by omega)]
      by_cases hm : m = 0
      · obtain ⟨h3, rfl⟩ := h1.2 hm
        subst hm
        simp only [uTail]
        rw [if_pos (by omega), w32 (by have := hb.head; omega) (by have := hb.head; omega)]
      · rw [if_neg (by omega), if_pos (by rw [w64 (by omega) (by omega)]; omega), lead_mask hb.head hl' hm, if_neg hm, if_neg hm]
        exact rnext_l0 (b :: bs) hb hl m k 1 r lo hi (m + 1) h2.2.1 h2.2.2 (by omega) (by omega) (by omega) (by omega)


theorem rdecode_l0 (ys : List Int) (hb : Byt ys) (hl : ys.length ≤ 1000000000) : ∀ (n : Nat) (i : Nat) (acc : List Int) (k : Nat), ys.length ≤ i + n → i ≤ ys.length → acc.length ≤ i → n + 9 ≤ k → gossamerref1_Decode.l0 k ys acc i = some (acc ++ uDec (ys.drop i))
  | n, i, acc, k, hn, hi, ha, hk => by
    obtain ⟨k, rfl⟩ : ∃ q, k = q + 1 := ⟨k - 1, by omega⟩
    simp only [gossamerref1_Decode.l0]
    by_cases e : i < ys.length
    · have h0 : ys.drop i ≠ [] := by intro h; have := congrArg List.length h; simp at this; omega
      have h4 := next_n _ h0
      simp only [List.length_drop] at h4
      rw [if_pos (by omega), if_pos (by omega), if_pos (by omega), Int.toNat_natCast, rnext_ok (ys.drop i) (hb.drop _) (by simp; omega) k (by omega), decode_step h0]
      simp only [Option.bind_some]
      rw [if_pos (by omega), w64 (by omega) (by omega), List.drop_drop]
      cases n with
      | zero => omega
      | succ n =>
        have e2 : ((i : Int) + (uNext (ys.drop i)).2.1) = ((i + (uNext (ys.drop i)).2.1.toNat : Nat) : Int) := by omega
        rw [e2, rdecode_l0 ys hb hl n _ _ k (by omega) (by omega) (by simp only [List.length_append, List.length_cons, List.length_nil]; omega) (by omega)]
        simp
    · rw [if_neg (by omega), List.drop_eq_nil_of_le (by omega), decode_nil, List.append_nil]
theorem rdecode_ok (xs : List Int) (hb : Byt xs) (hl : xs.length ≤ 1000000000) (k : Nat) (hk : xs.length + 9 ≤ k) : gossamerref1_Decode.f k xs = some (uDec xs) := by
  have := rdecode_l0 xs hb hl xs.length 0 [] k (by omega) (by omega) (by simp) hk
  simpa [gossamerref1_Decode.f] using this

section
variable (y : Int)
theorem i32_or192 (h₀ : 0 ≤ y) (h₁ : y < 32) : bits .or .i32 192 y = 192 + y :=
  bits_join .i32 31 (by decide) wraps_i32 5 192 y (by decide) (by decide) (by decide) h₀ h₁ (by omega)
theorem i32_or224 (h₀ : 0 ≤ y) (h₁ : y < 16) : bits .or .i32 224 y = 224 + y :=
  bits_join .i32 31 (by decide) wraps_i32 4 224 y (by decide) (by decide) (by decide) h₀ h₁ (by omega)
theorem i32_or240 (h₀ : 0 ≤ y) (h₁ : y < 8) : bits .or .i32 240 y = 240 + y :=
  bits_join .i32 31 (by decide) wraps_i32 3 240 y (by decide) (by decide) (by decide) h₀ h₁ (by omega)
theorem i32_or128 (h₀ : 0 ≤ y) (h₁ : y < 64) : bits .or .i32 128 y = 128 + y :=
  bits_join .i32 31 (by decide) wraps_i32 6 128 y (by decide) (by decide) (by decide) h₀ h₁ (by omega)
theorem i32_and63 (h₀ : 0 ≤ y) (h₁ : y < 2147483648) : bits .and .i32 y 63 = y % 64 :=
  bits_mask .i32 31 (by decide) wraps_i32 6 (by decide) y h₀ (by omega)
end
theorem bytes_ok (r : Int) (k : Nat) (hk : 1 ≤ k) : gossamerref1_Bytes.f k r = some (uPt (uFix r)) := by
  obtain ⟨k, rfl⟩ : ∃ m, k = m + 1 := ⟨k - 1, by omega⟩
  have bad : uPt 65533 = [239, 191, 189] := by decide
  have t1 : ∀ x : Int, gossamerref1_Bytes.j0 (k + 1) x true = some [239, 191, 189] := fun x => by simp only [gossamerref1_Bytes.j0]; rfl
  have t2 : ∀ x : Int, 0 ≤ x → x ≤ 1114111 → gossamerref1_Bytes.j0 (k + 1) x false = some (uPt x) := by
    intro x h0 h1
    simp only [gossamerref1_Bytes.j0]
    unfold uPt
    rw [if_neg (by simp)]
    by_cases c1 : x ≤ 127
    · rw [if_pos c1, if_pos (by omega), show x % 256 = x by omega]
    · rw [if_neg c1, if_neg (show ¬ x < 128 by omega)]
      by_cases c2 : x ≤ 2047
      · rw [if_pos c2, if_pos (show x < 2048 by omega), i32_or192 _ (by omega) (by omega), i32_and63 _ (by omega) (by omega), i32_or128 _ (by omega) (by omega), show (192 + x / 64) % 256 = 192 + x / 64 by omega, show (128 + x % 64) % 256 = 128 + x % 64 by omega]
      · rw [if_neg c2, if_neg (show ¬ x < 2048 by omega)]
        by_cases c3 : x ≤ 65535
        · rw [if_pos c3, if_pos (show x < 65536 by omega), i32_or224 _ (by omega) (by omega), i32_and63 (x / 64) (by omega) (by omega), i32_and63 x (by omega) (by omega), i32_or128 _ (by omega) (by omega), i32_or128 _ (by omega) (by omega), show (224 + x / 4096) % 256 = 224 + x / 4096 by omega, show (128 + x / 64 % 64) % 256 = 128 + x / 64 % 64 by omega, show (128 + x % 64) % 256 = 128 + x % 64 by omega]
        · rw [if_neg c3, if_neg (show ¬ x < 65536 by omega), i32_or240 _ (by omega) (by omega), i32_and63 (x / 4096) (by omega) (by omega), i32_and63 (x / 64) (by omega) (by omega), i32_and63 x (by omega) (by omega), i32_or128 _ (by omega) (by omega), i32_or128 _ (by omega) (by omega), i32_or128 _ (by omega) (by omega), show (240 + x / 262144) % 256 = 240 + x / 262144 by omega, show (128 + x / 4096 % 64) % 256 = 128 + x / 4096 % 64 by omega, show (128 + x / 64 % 64) % 256 = 128 + x / 64 % 64 by omega, show (128 + x % 64) % 256 = 128 + x % 64 by omega]
  unfold gossamerref1_Bytes.f uFix
  by_cases c1 : r < 0
  · rw [if_pos c1, if_pos c1, t1, bad]
  · rw [if_neg c1, if_neg c1]
    by_cases c2 : r > 1114111
    · rw [if_pos c2, if_pos c2, t1, bad]
    · rw [if_neg c2, if_neg c2]
      by_cases c3 : r ≥ 55296
      · rw [if_pos c3]
        by_cases c4 : r ≤ 57343
        · rw [decide_eq_true c4, t1, if_pos ⟨c3, c4⟩, bad]
        · rw [decide_eq_false c4, t2 r (by omega) (by omega), if_neg (by omega)]
      · rw [if_neg c3, t2 r (by omega) (by omega), if_neg (by omega)]
theorem bytes_c (r : Int) (w : World) :
    Calls Try.prog 29 #[.int .i32 r] w fun e w' => ∃ v, e = .returned v ∧ Kd.R (Kd.int .u8) 5 w' w.heap.size (fun _ => True) v (uPt (uFix r)) ∧ Below w.heap.size w w' :=
  gossamerref1_Bytes.calls 1 r _ w (bytes_ok r 1 (by omega))

/-! ## What the calls come to, by the plain definitions -/
theorem next_c (A : Option Addr) (c : Nat) (xs : List Int) (w : World) (hC : Kd.C (Kd.int .u8) w A xs.length xs) (hc : xs.length ≤ c) (hb : Byt xs) (hl : xs.length ≤ 1000000) :
    Calls Try.prog 34 #[.slice A xs.length c] w fun e w' => e = .returned (.tuple #[.int .i32 (uNext xs).1, .int .i64 (uNext xs).2.1, .bool (uNext xs).2.2]) ∧ Below w.heap.size w w' :=
  utf_Next.calls 8 A c xs _ _ _ w hC hc (next_ok xs hb (by omega) 8 (by omega))

theorem decode_c (A : Option Addr) (c : Nat) (xs : List Int) (w : World) (hC : Kd.C (Kd.int .u8) w A xs.length xs) (hc : xs.length ≤ c) (hb : Byt xs) (hl : xs.length ≤ 1000000) :
    Calls Try.prog 25 #[.slice A xs.length c] w fun e w' => ∃ v, e = .returned v ∧ Kd.R (Kd.int .i32) 21 w' w.heap.size (fun k => w.heap.size ≤ k) v (uDec xs) ∧ Below w.heap.size w w' :=
  utf_Decode.calls (xs.length + 9) (fun k => k < w.heap.size) A c xs _ w (Kd.V_mk hc (Kd.C_F (Kd.heap_int .u8) hC)) (decode_ok xs hb (by omega) _ (by omega))

theorem encode_c (A : Option Addr) (c : Nat) (rs : List Int) (w : World) (hC : Kd.C (Kd.int .i32) w A rs.length rs) (hc : rs.length ≤ c) (hb : R32 rs) (hl : rs.length ≤ 1000000) :
    Calls Try.prog 26 #[.slice A rs.length c] w fun e w' => ∃ v, e = .returned v ∧ Kd.R (Kd.int .u8) 5 w' w.heap.size (fun _ => True) v (uEnc rs) ∧ Below w.heap.size w w' :=
  utf_Encode.calls (rs.length + 4) A c rs _ w hC hc (encode_ok rs hb (by omega) _ (by omega))

theorem byt_of {xs : List Int} (h : (xs.all fun x => decide (0 ≤ x) && decide (x < 256)) = true) : Byt xs := fun x hx => by
  have := List.all_eq_true.1 h x hx
  simpa using this
/-- A row just made, marked or not, is read as it was told. -/
theorem C_new (k : IntKind) (W : World) (e : TypeId) (m : Nat × Nat) (xs : List Int) (hm : xs.length ≤ 1000000) : (Kd.int k).C (W.alloc (.cells (xs.map (Value.int k)).toArray e m)) (some ⟨W.heap.size, 0, none⟩) xs.length xs := by
  refine Kd.C_of_reads (d := (0 : Int)) (h1 := fun _ => rfl) ⟨rfl, by omega, fun _ => ⟨_, rfl, fun j hj => ?_⟩⟩
  have hb := blk_new W (.cells (xs.map (Value.int k)).toArray e m)
  have := cell_of_row _ _ j _ _ _ hb
  have e2 : (⟨W.heap.size, 0, none⟩ : Addr).add j = ⟨W.heap.size, j, none⟩ := by cases j <;> simp [Addr.add]
  rw [e2, this]
  simp [hj]

theorem str_inj {xs ys : List Int} (hx : Byt xs) (hy : Byt ys) : ((strOfNums xs).toList == (strOfNums ys).toList) = decide (xs = ys) := by
  rw [strOfNums_toList, strOfNums_toList]
  unfold Lib.bytesOf
  by_cases e : xs = ys
  · subst e; simp
  · rw [decide_eq_false e, beq_eq_false_iff_ne]
    intro h
    apply e
    have inj : ∀ (xs ys : List Int), Byt xs → Byt ys → xs.map (fun n => UInt8.ofNat n.toNat) = ys.map (fun n => UInt8.ofNat n.toNat) → xs = ys := by
      intro xs
      induction xs with
      | nil => intro ys _ _ h; cases ys with
        | nil => rfl
        | cons y ys => simp at h
      | cons x xs ih =>
        intro ys hx hy h
        cases ys with
        | nil => simp at h
        | cons y ys =>
          simp only [List.map_cons, List.cons.injEq] at h
          have h1 := congrArg UInt8.toNat h.1
          have bx := hx.head
          have by_ := hy.head
          rw [UInt8.toNat_ofNat', UInt8.toNat_ofNat'] at h1
          rw [ih ys hx.tail hy.tail h.2, show x = y by omega]
    exact inj xs ys hx hy h

/-- A string's bytes, as numbers. -/
abbrev bs (s : ByteArray) : List Int := Go.Proofs.YtdbihmkeljakeaaW.PrintWords.bytesOf s
theorem bs_len (s : ByteArray) : (bs s).length = s.size :=
  Go.Proofs.YtdbihmkeljakeaaW.PrintWords.bytesOf_length s
theorem bs_byt (s : ByteArray) : Byt (bs s) := by
  intro x hx
  simp only [bs, Go.Proofs.YtdbihmkeljakeaaW.PrintWords.bytesOf, List.mem_map] at hx
  obtain ⟨c, -, rfl⟩ := hx
  have := c.toNat_lt
  omega
theorem bs_C (w : World) (s : ByteArray) (hs : s.size ≤ 140737488351232) : (Kd.int .u8).C (bytesWorld w 5 s) (some ⟨w.heap.size, 0, none⟩) (bs s).length (bs s) := by
  rw [bs_len]
  exact Kd.C_of_reads (d := (0 : Int)) (h1 := fun _ => rfl) (bytes_reads w 5 s (by omega))
theorem bs_below (w : World) (s : ByteArray) : Below w.heap.size w (bytesWorld w 5 s) := bytes_below (Below.refl _ _) (Nat.le_refl _) _ _
theorem bs_dec (s : ByteArray) : (uDec (bs s)).length ≤ s.size := by have := decode_len _ (bs s) (Nat.le_refl _); rw [bs_len] at this; exact this

end Go.Proofs.Ytdbihmkeljakeaa.LinkPctTells
