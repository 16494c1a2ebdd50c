/- The orders of texts in plain numbers and lists: which one is less by its units, and by its code points. No condition beyond those named in each theorem. -/
import Derived.Test.YtgabddjdgcembaaOrdM
import Derived.Test.YtgabddjdgcembaaOrdL
import Derived.Test.YtgabddjdgcembaaPOrdx8
import Derived.Test.YtgabddjdgcembaaPOrdx17
import Derived.Test.YtgabddjdgcembaaPOrdx19
namespace Go.Proofs.Ytgabddjdgcembaa.LinkOrd
open Go Go.RowKit Go.Proofs.Ytgabddjdgcembaa Go.Proofs.Ytgabddjdgcembaa.POrd Go.Proofs.YtgabddjdgcembaaW.PrintWords Go.Proofs.YtgabddjdgcembaaW.PrintLast Go.Proofs.YtgabddjdgcembaaW.PrintMore Go.Proofs.Ytgabddjdgcembaa.Utf Go.Lib
set_option linter.unusedVariables false
set_option linter.unusedSimpArgs false
set_option maxRecDepth 100000
theorem seq_ok (c : Int) (h : 0 ≤ c ∧ c < 256) (k : Nat) (hk : 4 ≤ k) :
    gossamerref1_seq.f k c = some (match uLead c with | none => (0, 0, 0) | some (m, r, lo, hi) => ((m : Int) + 1, if m = 0 then 0 else lo, if m = 0 then 0 else hi)) := by
  obtain ⟨k, rfl⟩ : ∃ m, k = m + 4 := ⟨k - 4, by omega⟩
  unfold gossamerref1_seq.f uLead
  simp only [gossamerref1_seq.j0, gossamerref1_seq.j1, gossamerref1_seq.j2, decide_eq_true_eq, ge_iff_le]
  by_cases c1 : c < 128
  · simp only [if_pos c1, if_pos (show c ≤ 127 by omega)]; rfl
  · by_cases c2 : c < 194
    · simp only [if_neg c1, if_pos c2, if_neg (show ¬ c ≤ 127 by omega), if_neg (show ¬ 194 ≤ c by omega), if_neg (show ¬ 225 ≤ c by omega), if_neg (show ¬ 241 ≤ c by omega), if_neg (show ¬ c = 224 by omega), if_neg (show ¬ c = 237 by omega), if_neg (show ¬ c = 240 by omega), if_neg (show ¬ c = 244 by omega), Bool.false_eq_true, if_false]
    · by_cases c3 : c < 224
      · simp only [if_neg c1, if_neg c2, if_pos c3, if_neg (show ¬ c ≤ 127 by omega), if_pos (show 194 ≤ c by omega), if_pos (show c ≤ 223 by omega)]; rfl
      · by_cases c4 : c < 240
        · simp only [if_neg c1, if_neg c2, if_neg c3, if_pos c4, if_neg (show ¬ c ≤ 127 by omega), if_pos (show 194 ≤ c by omega), if_neg (show ¬ c ≤ 223 by omega), if_pos (show c ≤ 239 by omega)]
          by_cases d1 : c = 224
          · subst d1; simp
          · by_cases d2 : c = 237
            · subst d2; simp
            · simp [d1, d2]; omega
        · by_cases c5 : c < 245
          · simp only [if_neg c1, if_neg c2, if_neg c3, if_neg c4, if_pos c5, if_neg (show ¬ c ≤ 127 by omega), if_pos (show 194 ≤ c by omega), if_neg (show ¬ c ≤ 223 by omega), if_neg (show ¬ c ≤ 239 by omega), if_neg (show ¬ c = 224 by omega), if_neg (show ¬ c = 237 by omega), if_pos (show 225 ≤ c by omega)]
            by_cases d1 : c = 240
            · subst d1; simp
            · by_cases d2 : c = 244
              · subst d2; simp
              · rw [if_neg d1, if_pos (by omega), if_pos (by omega)]; simp [d1, d2]
          · simp only [if_neg c1, if_neg c2, if_neg c3, if_neg c4, if_neg c5, if_neg (show ¬ c ≤ 127 by omega), if_pos (show 194 ≤ c by omega), if_neg (show ¬ c ≤ 223 by omega), if_neg (show ¬ c ≤ 239 by omega), if_neg (show ¬ c = 224 by omega), if_neg (show ¬ c = 237 by omega), if_neg (show ¬ c = 240 by omega), if_neg (show ¬ c = 244 by omega), if_pos (show 225 ≤ c by omega), if_pos (show 241 ≤ c by omega), if_neg (show ¬ c ≤ 243 by omega)]

theorem i32_and31 (x : Int) (h₀ : 0 ≤ x) (h₁ : x < 256) : Go.bits .and .i32 x 31 = x % 32 := bits_mask .i32 31 (by decide) wraps_i32 5 (by decide) x h₀ (by omega)
theorem i32_and15 (x : Int) (h₀ : 0 ≤ x) (h₁ : x < 256) : Go.bits .and .i32 x 15 = x % 16 := bits_mask .i32 31 (by decide) wraps_i32 4 (by decide) x h₀ (by omega)
theorem i32_and7 (x : Int) (h₀ : 0 ≤ x) (h₁ : x < 256) : Go.bits .and .i32 x 7 = x % 8 := bits_mask .i32 31 (by decide) wraps_i32 3 (by decide) x h₀ (by omega)

theorem lead_mask {c : Int} (h : 0 ≤ c ∧ c < 256) {m : Nat} {r lo hi : Int} (e : uLead c = some (m, r, lo, hi)) (hm : m ≠ 0) :
    Go.bits .and .i32 (wrap32 c) (shr .i32 255 (wrap64 ((m : Int) + 1 + 1))) = r := by
  rw [w32 (by omega) (by omega)]
  have s1 : shr .i32 255 (wrap64 (((1 : Nat) : Int) + 1 + 1)) = 31 := by decide +kernel
  have s2 : shr .i32 255 (wrap64 (((2 : Nat) : Int) + 1 + 1)) = 15 := by decide +kernel
  have s3 : shr .i32 255 (wrap64 (((3 : Nat) : Int) + 1 + 1)) = 7 := by decide +kernel
  unfold uLead at e
  repeat' split at e
  all_goals simp at e
  all_goals obtain ⟨rfl, rfl, rfl, rfl⟩ := e
  all_goals first | exact absurd rfl hm | (rw [s1]; exact i32_and31 c h.1 h.2) | (rw [s2]; exact i32_and15 c h.1 h.2) | (rw [s3]; exact i32_and7 c h.1 h.2)

theorem rnext_l0 (xs : List Int) (hb : Byt xs) (hl : xs.length ≤ 140737488351232) : ∀ (n : Nat) (k i : Nat) (r lo hi m : Int), 0 ≤ r → (r + 1) * 64 ^ n ≤ 2147483648 → 1 ≤ i → m = (i : Int) + n → m ≤ 4 → n < k →
    gossamerref1_Next.l0 k xs m lo hi r i = some (uTail n r lo hi i (xs.drop i))
  | 0, k, i, r, lo, hi, m, _, _, h1, hm, hm3, hk => by
    obtain ⟨k, rfl⟩ : ∃ q, k = q + 1 := ⟨k - 1, by omega⟩
    simp only [gossamerref1_Next.l0, uTail]
    rw [if_neg (by omega), show m = i by omega]
  | n + 1, k, i, r, lo, hi, m, h0, hr, h1, hm, hm3, hk => by
    obtain ⟨k, rfl⟩ : ∃ q, k = q + 1 := ⟨k - 1, by omega⟩
    simp only [gossamerref1_Next.l0]
    rw [if_pos (by omega)]
    by_cases c : i < xs.length
    · have hrd := rd_byt hb i c
      have hpp : (1 : Int) ≤ 64 ^ n := by have hp : 1 ≤ 64 ^ n := Nat.one_le_pow n 64 (by omega); exact_mod_cast hp
      have hr' : (r + 1) * 64 * 64 ^ n ≤ 2147483648 := by rw [Int.mul_assoc, ← Int.pow_succ']; exact hr
      have hrb : (r + 1) * 64 ≤ 2147483648 := Int.le_trans (by have := Int.mul_le_mul_of_nonneg_left hpp (show (0 : Int) ≤ (r + 1) * 64 by omega); omega) hr'
      rw [if_neg (by omega), if_pos (by omega), if_pos (by omega), rd_drop xs i c]
      simp only [uTail]
      by_cases d1 : rd xs (i : Int) < lo
      · rw [if_pos d1, if_pos d1]
      · rw [if_neg d1, if_neg d1]
        by_cases d2 : rd xs (i : Int) > hi
        · rw [if_pos d2, if_pos d2]
        · rw [if_neg d2, if_neg d2, step6 h0 (by omega) hrd, w64 (by omega) (by omega)]
          have := rnext_l0 xs hb hl n k (i + 1) (r * 64 + rd xs (i : Int) % 64) 128 191 m (by omega) (Int.le_trans (Int.mul_le_mul_of_nonneg_right (by omega) (by omega)) hr') (by omega) (by omega) hm3 (by omega)
          rw [Int.natCast_add] at this
          exact this
    · rw [if_pos (by omega), List.drop_eq_nil_of_le (by omega)]
      rfl

theorem rnext_ok (xs : List Int) (hb : Byt xs) (hl : xs.length ≤ 140737488351232) (k : Nat) (hk : 8 ≤ k) : gossamerref1_Next.f k xs = some (uNext xs) := by
  unfold gossamerref1_Next.f
  cases xs with
  | nil => rfl
  | cons b bs =>
    rw [if_neg (by simp only [List.length_cons]; omega), if_pos (by simp only [List.length_cons]; omega)]
    have e : rd (b :: bs) 0 = b := rfl
    rw [e, seq_ok b hb.head k (by omega)]
    simp only [Option.bind_some, uNext]
    cases hl' : uLead b with
    | none => rfl
    | some x =>
      obtain ⟨m, r, lo, hi⟩ := x
      have h1 := lead_m hl'
      have h2 := lead_b hb.head hl'
      simp only
      rw [if_neg (by omega)]
      by_cases hm : m = 0
      · obtain ⟨h3, rfl⟩ := h1.2 hm
        subst hm
        simp only [uTail]
        rw [if_pos (by omega), w32 (by have := hb.head; omega) (by have := hb.head; omega)]
      · rw [if_neg (by omega), if_pos (by rw [w64 (by omega) (by omega)]; omega), lead_mask hb.head hl' hm, if_neg hm, if_neg hm]
        exact rnext_l0 (b :: bs) hb hl m k 1 r lo hi (m + 1) h2.2.1 h2.2.2 (by omega) (by omega) (by omega) (by omega)


theorem rvalid_l0 (ys : List Int) (hb : Byt ys) (hl : ys.length ≤ 140737488351232) : ∀ (n : Nat) (i : Nat) (k : Nat), ys.length ≤ i + n → i ≤ ys.length → n + 9 ≤ k → gossamerref1_Valid.l0 k ys i = some (uValid (ys.drop i))
  | n, i, k, hn, hi, hk => by
    obtain ⟨k, rfl⟩ : ∃ q, k = q + 1 := ⟨k - 1, by omega⟩
    simp only [gossamerref1_Valid.l0]
    by_cases e : i < ys.length
    · have h0 : ys.drop i ≠ [] := by intro h; have := congrArg List.length h; simp at this; omega
      have h4 := next_n _ h0
      simp only [List.length_drop] at h4
      rw [if_pos (by omega), if_pos (by omega), if_pos (by omega), Int.toNat_natCast, rnext_ok (ys.drop i) (hb.drop _) (by simp; omega) k (by omega), valid_step h0]
      simp only [Option.bind_some]
      cases (uNext (ys.drop i)).2.2 with
      | false => simp
      | true =>
        rw [if_pos rfl, Bool.true_and, w64 (by omega) (by omega), List.drop_drop]
        cases n with
        | zero => omega
        | succ n =>
          have e2 : ((i : Int) + (uNext (ys.drop i)).2.1) = ((i + (uNext (ys.drop i)).2.1.toNat : Nat) : Int) := by omega
          rw [e2]
          exact rvalid_l0 ys hb hl n _ k (by omega) (by omega) (by omega)
    · rw [if_neg (by omega), List.drop_eq_nil_of_le (by omega), valid_nil]
theorem rvalid_ok (xs : List Int) (hb : Byt xs) (hl : xs.length ≤ 140737488351232) (k : Nat) (hk : xs.length + 9 ≤ k) : gossamerref1_Valid.f k xs = some (uValid xs) :=
  rvalid_l0 xs hb hl xs.length 0 k (by omega) (by omega) hk

theorem strOf_bs (s : ByteArray) : strOfNums (bs s) = s := by
  apply ByteArray.ext
  apply Array.ext'
  simp only [strOfNums, bs, Go.Proofs.YtgabddjdgcembaaW.PrintWords.bytesOf, List.map_map]
  have : s.data.toList.map ((fun n : Int => UInt8.ofNat n.toNat) ∘ fun c : UInt8 => (c.toNat : Int)) = s.data.toList := by
    conv => rhs; rw [← List.map_id s.data.toList]
    refine List.map_congr_left fun c _ => ?_
    simp
  rw [this]

theorem tot2 (a b : ByteArray) : totL [a, b] = a.size + b.size + 2 := by simp [totL]; omega
theorem bs_ne {b : ByteArray} (h : (b.toList == ([] : List UInt8)) = false) : bs b ≠ [] := by
  intro e
  have e2 : strOfNums (bs b) = b := strOf_bs b
  rw [e] at e2
  rw [← e2, strOfNums_toList] at h
  simp [Lib.bytesOf] at h
theorem dec_ne {b : ByteArray} (h : bs b ≠ []) : uDec (bs b) ≠ [] := by rw [decode_step h]; simp
theorem OrderLeads : gossamerlaw2_OrderLeads.Pure := by
  intro a b _ _
  refine ⟨5000, ?_⟩
  obtain ⟨r, hr, hl⟩ := long_f 120 [a, b] (by simp) (by omega) (by omega) 5000 (by simp)
  have haw : ∀ k x, 80 ≤ k → x = true → gossamerlaw2_OrderLeads.j0 (k + 1) a b x = some true := fun k x hk hx => by
    subst hx
    simp only [gossamerlaw2_OrderLeads.j0]
    rw [if_pos trivial, awake_f k hk]; rfl
  unfold gossamerlaw2_OrderLeads.f
  rw [hr, Option.bind_some]
  cases r with
  | true => rw [if_pos rfl]; exact haw 4999 _ (by omega) rfl
  | false =>
    have hl := hl rfl
    rw [tot2] at hl
    rw [if_neg (by simp), if_pos (by omega), rvalid_ok _ (bs_byt a) (by rw [bs_len]; omega) 5000 (by rw [bs_len]; omega), Option.bind_some]
    cases hv : uValid (bs a) with
    | false => rw [if_neg (by simp)]; exact haw 4999 _ (by omega) rfl
    | true =>
      rw [if_pos rfl]
      cases he : (b.toList == ([] : List UInt8)) with
      | true => exact haw 4999 _ (by omega) rfl
      | false =>
        have hs : (a ++ b).size = a.size + b.size := by simp
        have hd := (decode_parts (bs_byt a) hv (bs b)).1
        have hne := dec_ne (bs_ne he)
        have c1 : cmpT a (a ++ b) = -1 := by
          rw [cmpT_w, bs_append, hd, List.map_append]
          exact lexP_lead _ (by simpa using hne)
        have c2 : ptsT (a ++ b) a = 1 := by
          unfold ptsT
          rw [bs_append, hd, lexP_neg, lexP_lead _ hne]; rfl
        simp only [gossamerlaw2_OrderLeads.j0]
        rw [if_neg (by simp), if_pos (by omega), compare_f a (a ++ b) (by omega) (by omega) _ (by omega), Option.bind_some, if_pos c1, points_f (a ++ b) a (by omega) (by omega) _ (by omega), Option.bind_some, if_pos c2, awake_f _ (by omega)]
        rfl

end Go.Proofs.Ytgabddjdgcembaa.LinkOrd
