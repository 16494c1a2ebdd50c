/- The orders of texts in plain numbers and lists: which one is less by its units, and by its code points. No condition beyond those named in each theorem. -/
import Derived.Test.YtgabddjdgcembaaOrdM
import Derived.Test.YtgabddjdgcembaaOrdL
import Derived.Test.YtgabddjdgcembaaPOrdx8
import Derived.Test.YtgabddjdgcembaaPOrdx9
import Derived.Test.YtgabddjdgcembaaPOrdx10
namespace Go.Proofs.Ytgabddjdgcembaa.LinkOrd
open Go Go.RowKit Go.Proofs.Ytgabddjdgcembaa Go.Proofs.Ytgabddjdgcembaa.POrd Go.Proofs.YtgabddjdgcembaaW.PrintWords Go.Proofs.YtgabddjdgcembaaW.PrintLast Go.Proofs.YtgabddjdgcembaaW.PrintMore Go.Proofs.Ytgabddjdgcembaa.Utf Go.Lib
set_option linter.unusedVariables false
set_option linter.unusedSimpArgs false
set_option maxRecDepth 100000
theorem seq_ok (c : Int) (h : 0 ≤ c ∧ c < 256) (k : Nat) (hk : 4 ≤ k) :
    gossamerref1_seq.f k c = some (match uLead c with | none => (0, 0, 0) | some (m, r, lo, hi) => ((m : Int) + 1, if m = 0 then 0 else lo, if m = 0 then 0 else hi)) := by
  obtain ⟨k, rfl⟩ : ∃ m, k = m + 4 := ⟨k - 4, by omega⟩
  unfold gossamerref1_seq.f uLead
  simp only [gossamerref1_seq.j0, gossamerref1_seq.j1, gossamerref1_seq.j2, decide_eq_true_eq, ge_iff_le]
  by_cases c1 : c < 128
  · simp only [if_pos c1, if_pos (show c ≤ 127 by omega)]; rfl
  · by_cases c2 : c < 194
    · simp only [if_neg c1, if_pos c2, if_neg (show ¬ c ≤ 127 by omega), if_neg (show ¬ 194 ≤ c by omega), if_neg (show ¬ 225 ≤ c by omega), if_neg (show ¬ 241 ≤ c by omega), if_neg (show ¬ c = 224 by omega), if_neg (show ¬ c = 237 by omega), if_neg (show ¬ c = 240 by omega), if_neg (show ¬ c = 244 by omega), Bool.false_eq_true, if_false]
    · by_cases c3 : c < 224
      · simp only [if_neg c1, if_neg c2, if_pos c3, if_neg (show ¬ c ≤ 127 by omega), if_pos (show 194 ≤ c by omega), if_pos (show c ≤ 223 by omega)]; rfl
      · by_cases c4 : c < 240
        · simp only [if_neg c1, if_neg c2, if_neg c3, if_pos c4, if_neg (show ¬ c ≤ 127 by omega), if_pos (show 194 ≤ c by omega), if_neg (show ¬ c ≤ 223 by omega), if_pos (show c ≤ 239 by omega)]
          by_cases d1 : c = 224
          · subst d1; simp
          · by_cases d2 : c = 237
            · subst d2; simp
            · simp [d1, d2]; omega
        · by_cases c5 : c < 245
          · simp only [if_neg c1, if_neg c2, if_neg c3, if_neg c4, if_pos c5, if_neg (show ¬ c ≤ 127 by omega), if_pos (show 194 ≤ c by omega), if_neg (show ¬ c ≤ 223 by omega), if_neg (show ¬ c ≤ 239 by omega), if_neg (show ¬ c = 224 by omega), if_neg (show ¬ c = 237 by omega), if_pos (show 225 ≤ c by omega)]
            by_cases d1 : c = 240
            · subst d1; simp
            · by_cases d2 : c = 244
              · subst d2; simp
              · rw [if_neg d1, if_pos (by omega), if_pos (by omega)]; simp [d1, d2]
          · simp only [if_neg c1, if_neg c2, if_neg c3, if_neg c4, if_neg c5, if_neg (show ¬ c ≤ 127 by omega), if_pos (show 194 ≤ c by omega), if_neg (show ¬ c ≤ 223 by omega), if_neg (show ¬ c ≤ 239 by omega), if_neg (show ¬ c = 224 by omega), if_neg (show ¬ c = 237 by omega), if_neg (show ¬ c = 240 by omega), if_neg (show ¬ c = 244 by omega), if_pos (show 225 ≤ c by omega), if_pos (show 241 ≤ c by omega), if_neg (show ¬ c ≤ 243 by omega)]

theorem i32_and31 (x : Int) (h₀ : 0 ≤ x) (h₁ : x < 256) : Go.bits .and .i32 x 31 = x % 32 := bits_mask .i32 31 (by decide) wraps_i32 5 (by decide) x h₀ (by omega)
theorem i32_and15 (x : Int) (h₀ : 0 ≤ x) (h₁ : x < 256) : Go.bits .and .i32 x 15 = x % 16 := bits_mask .i32 31 (by decide) wraps_i32 4 (by decide) x h₀ (by omega)
theorem i32_and7 (x : Int) (h₀ : 0 ≤ x) (h₁ : x < 256) : Go.bits .and .i32 x 7 = x % 8 := bits_mask .i32 31 (by decide) wraps_i32 3 (by decide) x h₀ (by omega)

theorem lead_mask {c : Int} (h : 0 ≤ c ∧ c < 256) {m : Nat} {r lo hi : Int} (e : uLead c = some (m, r, lo, hi)) (hm : m ≠ 0) :
    Go.bits .and .i32 (wrap32 c) (shr .i32 255 (wrap64 ((m : Int) + 1 + 1))) = r := by
  rw [w32 (by omega) (by omega)]
  have s1 : shr .i32 255 (wrap64 (((1 : Nat) : Int) + 1 + 1)) = 31 := by decide +kernel
  have s2 : shr .i32 255 (wrap64 (((2 : Nat) : Int) + 1 + 1)) = 15 := by decide +kernel
  have s3 : shr .i32 255 (wrap64 (((3 : Nat) : Int) + 1 + 1)) = 7 := by decide +kernel
  unfold uLead at e
  repeat' split at e
  all_goals simp at e
  all_goals obtain ⟨rfl, rfl, rfl, rfl⟩ := e
  all_goals first | exact absurd rfl hm | (rw [s1]; exact i32_and31 c h.1 h.2) | (rw [s2]; exact i32_and15 c h.1 h.2) | (rw [s3]; exact i32_and7 c h.1 h.2)

theorem rnext_l0 (xs : List Int) (hb : Byt xs) (hl : xs.length ≤ 140737488351232) : ∀ (n : Nat) (k i : Nat) (r lo hi m : Int), 0 ≤ r → (r + 1) * 64 ^ n ≤ 2147483648 → 1 ≤ i → m = (i : Int) + n → m ≤ 4 → n < k →
    gossamerref1_Next.l0 k xs m lo hi r i = some (uTail n r lo hi i (xs.drop i))
  | 0, k, i, r, lo, hi, m, _, _, h1, hm, hm3, hk => by
    obtain ⟨k, rfl⟩ : ∃ q, k = q + 1 := ⟨k - 1, by omega⟩
    simp only [gossamerref1_Next.l0, uTail]
    rw [if_neg (by omega), show m = i by omega]
  | n + 1, k, i, r, lo, hi, m, h0, hr, h1, hm, hm3, hk => by
    obtain ⟨k, rfl⟩ : ∃ q, k = q + 1 := ⟨k - 1, by omega⟩
    simp only [gossamerref1_Next.l0]
    rw [if_pos (by omega)]
    by_cases c : i < xs.length
    · have hrd := rd_byt hb i c
      have hpp : (1 : Int) ≤ 64 ^ n := by have hp : 1 ≤ 64 ^ n := Nat.one_le_pow n 64 (by omega); exact_mod_cast hp
      have hr' : (r + 1) * 64 * 64 ^ n ≤ 2147483648 := by rw [Int.mul_assoc, ← Int.pow_succ']; exact hr
      have hrb : (r + 1) * 64 ≤ 2147483648 := Int.le_trans (by have := Int.mul_le_mul_of_nonneg_left hpp (show (0 : Int) ≤ (r + 1) * 64 by omega); omega) hr'
      rw [if_neg (by omega), if_pos (by omega), if_pos (by omega), rd_drop xs i c]
      simp only [uTail]
      by_cases d1 : rd xs (i : Int) < lo
      · rw [if_pos d1, if_pos d1]
      · rw [if_neg d1, if_neg d1]
        by_cases d2 : rd xs (i : Int) > hi
        · rw [if_pos d2, if_pos d2]
        · rw [if_neg d2, if_neg d2, step6 h0 (by omega) hrd, w64 (by omega) (by omega)]
          have := rnext_l0 xs hb hl n k (i + 1) (r * 64 + rd xs (i : Int) % 64) 128 191 m (by omega) (Int.le_trans (Int.mul_le_mul_of_nonneg_right (by omega) (by omega)) hr') (by omega) (by omega) hm3 (by omega)
          rw [Int.natCast_add] at this
          exact this
    · rw [if_pos (by omega), List.drop_eq_nil_of_le (by omega)]
      rfl

theorem rnext_ok (xs : List Int) (hb : Byt xs) (hl : xs.length ≤ 140737488351232) (k : Nat) (hk : 8 ≤ k) : gossamerref1_Next.f k xs = some (uNext xs) := by
  unfold gossamerref1_Next.f
  cases xs with
  | nil => rfl
  | cons b bs =>
    rw [if_neg (by simp only [List.length_cons]; omega), if_pos (by simp only [List.length_cons]; omega)]
    have e : rd (b :: bs) 0 = b := rfl
    rw [e, seq_ok b hb.head k (by omega)]
    simp only [Option.bind_some, uNext]
    cases hl' : uLead b with
    | none => rfl
    | some x =>
      obtain ⟨m, r, lo, hi⟩ := x
      have h1 := lead_m hl'
      have h2 := lead_b hb.head hl'
      simp only
      rw [if_neg (by omega)]
      by_cases hm : m = 0
      · obtain ⟨h3, rfl⟩ := h1.2 hm
        subst hm
        simp only [uTail]
        rw [if_pos (by omega), w32 (by have := hb.head; omega) (by have := hb.head; omega)]
      · rw [if_neg (by omega), if_pos (by rw [w64 (by omega) (by omega)]; omega), lead_mask hb.head hl' hm, if_neg hm, if_neg hm]
        exact rnext_l0 (b :: bs) hb hl m k 1 r lo hi (m + 1) h2.2.1 h2.2.2 (by omega) (by omega) (by omega) (by omega)


theorem rdecode_l0 (ys : List Int) (hb : Byt ys) (hl : ys.length ≤ 1000000000) : ∀ (n : Nat) (i : Nat) (acc : List Int) (k : Nat), ys.length ≤ i + n → i ≤ ys.length → acc.length ≤ i → n + 9 ≤ k → gossamerref1_Decode.l0 k ys acc i = some (acc ++ uDec (ys.drop i))
  | n, i, acc, k, hn, hi, ha, hk => by
    obtain ⟨k, rfl⟩ : ∃ q, k = q + 1 := ⟨k - 1, by omega⟩
    simp only [gossamerref1_Decode.l0]
    by_cases e : i < ys.length
    · have h0 : ys.drop i ≠ [] := by intro h; have := congrArg List.length h; simp at this; omega
      have h4 := next_n _ h0
      simp only [List.length_drop] at h4
      rw [if_pos (by omega), if_pos (by omega), if_pos (by omega), Int.toNat_natCast, rnext_ok (ys.drop i) (hb.drop _) (by simp; omega) k (by omega), decode_step h0]
      simp only [Option.bind_some]
      rw [if_pos (by omega), w64 (by omega) (by omega), List.drop_drop]
      cases n with
      | zero => omega
      | succ n =>
        have e2 : ((i : Int) + (uNext (ys.drop i)).2.1) = ((i + (uNext (ys.drop i)).2.1.toNat : Nat) : Int) := by omega
        rw [e2, rdecode_l0 ys hb hl n _ _ k (by omega) (by omega) (by simp only [List.length_append, List.length_cons, List.length_nil]; omega) (by omega)]
        simp
    · rw [if_neg (by omega), List.drop_eq_nil_of_le (by omega), decode_nil, List.append_nil]
theorem rdecode_ok (xs : List Int) (hb : Byt xs) (hl : xs.length ≤ 1000000000) (k : Nat) (hk : xs.length + 9 ≤ k) : gossamerref1_Decode.f k xs = some (uDec xs) := by
  have := rdecode_l0 xs hb hl xs.length 0 [] k (by omega) (by omega) (by simp) hk
  simpa [gossamerref1_Decode.f] using this

theorem runits_l0 (xs : List Int) (hs : ∀ r ∈ xs, Scal r) (hl : xs.length ≤ 1000000) : ∀ (n i : Nat) (acc : List Int) (k : Nat), xs.length = i + n → acc.length ≤ 2 * i → n < k →
    gossamerref2_Units.l0 k acc xs (i : Int) = some (acc ++ uns (xs.drop i))
  | n, i, acc, k, hn, ha, hk => by
    obtain ⟨k, rfl⟩ : ∃ q, k = q + 1 := ⟨k - 1, by omega⟩
    simp only [gossamerref2_Units.l0]
    by_cases c : i < xs.length
    · obtain ⟨n, rfl⟩ : ∃ q, n = q + 1 := ⟨n - 1, by omega⟩
      have hr := scal_b (hs _ (rd_mem c))
      rw [if_pos (by omega), if_pos (by omega), drop_uns xs i c]
      generalize rd xs (i : Int) = r at hr
      by_cases c1 : r > 65535
      · rw [if_pos c1, Option.bind_some, w32 (x := r - 65536) (by omega) (by omega), i32_and1023 _ (by omega) (by omega), w32 (by omega) (by omega), w32 (by omega) (by omega), u16w (by omega) (by omega), u16w (by omega) (by omega), if_pos (by simp; omega), w64 (by omega) (by omega)]
        have := runits_l0 xs hs hl n (i + 1) (acc ++ [55296 + (r - 65536) / 1024, 56320 + (r - 65536) % 1024]) k (by omega) (by simp; omega) (by omega)
        rw [show (i : Int) + 1 = ((i + 1 : Nat) : Int) by omega, this]
        unfold un; rw [if_pos (by omega), List.append_assoc]
      · rw [if_neg c1, if_pos (by omega), u16w hr.1 (by omega), w64 (by omega) (by omega)]
        have := runits_l0 xs hs hl n (i + 1) (acc ++ [r]) k (by omega) (by simp; omega) (by omega)
        rw [show (i : Int) + 1 = ((i + 1 : Nat) : Int) by omega, this]
        unfold un; rw [if_neg (by omega), List.append_assoc]
    · rw [if_neg (by omega), List.drop_eq_nil_of_le (by omega)]
      simp [uns]
theorem runits_f (s : ByteArray) (hs : s.size ≤ 1000000) (k : Nat) (hk : s.size + 20 ≤ k) : gossamerref2_Units.f k s = some (uns (uDec (bs s))) := by
  have hb := bs_byt s
  have hl := bs_len s
  have hd := bs_dec s
  unfold gossamerref2_Units.f
  rw [if_pos (by omega), rdecode_ok _ hb (by omega) k (by omega), Option.bind_some]
  have := runits_l0 (uDec (bs s)) (decode_scals hb) (by omega) (uDec (bs s)).length 0 [] k (by omega) (by simp) (by omega)
  rw [show ((0 : Nat) : Int) = 0 from rfl] at this
  rw [this]; simp
theorem sign_f (a b : Int) : gossamerref2_sign.f a b = some (cmpI a b) := by
  unfold gossamerref2_sign.f cmpI
  split
  · rfl
  · split <;> rfl
def Sml (xs : List Int) : Prop := ∀ x ∈ xs, 0 ≤ x ∧ x < 4294967296
theorem rcmp_l0 (xs ys : List Int) (hx : Sml xs) (hy : Sml ys) (hl : xs.length ≤ 1000000) : ∀ (n i k : Nat), xs.length = i + n → i ≤ ys.length → 2 * n + 2 ≤ k →
    gossamerref2_Compare.l0 k xs ys (i : Int) = some (lexP (xs.drop i) (ys.drop i))
  | n, i, k, hn, hi, hk => by
    obtain ⟨k, rfl⟩ : ∃ q, k = q + 2 := ⟨k - 2, by omega⟩
    simp only [gossamerref2_Compare.l0, gossamerref2_Compare.j1]
    by_cases c : i < xs.length
    · obtain ⟨n, rfl⟩ : ∃ q, n = q + 1 := ⟨n - 1, by omega⟩
      rw [if_pos (by omega), rd_drop xs i c]
      by_cases c2 : i < ys.length
      · have h1 := hx _ (rd_mem c)
        have h2 := hy _ (rd_mem c2)
        rw [decide_eq_true (by omega), if_pos rfl, if_pos (by omega), if_pos (by omega), if_pos (by omega), rd_drop ys i c2, lexP]
        by_cases c3 : rd xs (i : Int) = rd ys (i : Int)
        · rw [if_pos c3, c3, if_pos (cmpI_self _), w64 (by omega) (by omega)]
          exact rcmp_l0 xs ys hx hy hl n (i + 1) k (by omega) (by omega) (by omega)
        · rw [if_neg c3, if_neg (fun e => c3 (cmpI_zero e)), sign_f, w64 (by omega) (by omega), w64 (by omega) (by omega)]; rfl
      · rw [decide_eq_false (by omega), if_neg (by simp), sign_f, List.drop_eq_nil_of_le (by omega : ys.length ≤ i)]
        have e : cmpI (xs.length : Int) (ys.length : Int) = 1 := by unfold cmpI; rw [if_neg (by omega), if_pos (by omega)]
        rw [e]; rfl
    · rw [if_neg (by omega), if_neg (by simp), sign_f, List.drop_eq_nil_of_le (by omega : xs.length ≤ i)]
      by_cases c2 : i < ys.length
      · have e : cmpI (xs.length : Int) (ys.length : Int) = -1 := by unfold cmpI; rw [if_pos (by omega)]
        rw [rd_drop ys i c2, e]; rfl
      · have e : cmpI (xs.length : Int) (ys.length : Int) = 0 := by unfold cmpI; rw [if_neg (by omega), if_neg (by omega)]
        rw [e, List.drop_eq_nil_of_le (by omega : ys.length ≤ i)]; rfl
theorem rpts_l0 (xs ys : List Int) (hx : Sml xs) (hy : Sml ys) (hl : xs.length ≤ 1000000) : ∀ (n i k : Nat), xs.length = i + n → i ≤ ys.length → 2 * n + 2 ≤ k →
    gossamerref2_Points.l0 k xs ys (i : Int) = some (lexP (xs.drop i) (ys.drop i))
  | n, i, k, hn, hi, hk => by
    obtain ⟨k, rfl⟩ : ∃ q, k = q + 2 := ⟨k - 2, by omega⟩
    simp only [gossamerref2_Points.l0, gossamerref2_Points.j1]
    by_cases c : i < xs.length
    · obtain ⟨n, rfl⟩ : ∃ q, n = q + 1 := ⟨n - 1, by omega⟩
      rw [if_pos (by omega), rd_drop xs i c]
      by_cases c2 : i < ys.length
      · have h1 := hx _ (rd_mem c)
        have h2 := hy _ (rd_mem c2)
        rw [decide_eq_true (by omega), if_pos rfl, if_pos (by omega), if_pos (by omega), if_pos (by omega), rd_drop ys i c2, lexP]
        by_cases c3 : rd xs (i : Int) = rd ys (i : Int)
        · rw [if_pos c3, c3, if_pos (cmpI_self _), w64 (by omega) (by omega)]
          exact rpts_l0 xs ys hx hy hl n (i + 1) k (by omega) (by omega) (by omega)
        · rw [if_neg c3, if_neg (fun e => c3 (cmpI_zero e)), sign_f, w64 (by omega) (by omega), w64 (by omega) (by omega)]; rfl
      · rw [decide_eq_false (by omega), if_neg (by simp), sign_f, List.drop_eq_nil_of_le (by omega : ys.length ≤ i)]
        have e : cmpI (xs.length : Int) (ys.length : Int) = 1 := by unfold cmpI; rw [if_neg (by omega), if_pos (by omega)]
        rw [e]; rfl
    · rw [if_neg (by omega), if_neg (by simp), sign_f, List.drop_eq_nil_of_le (by omega : xs.length ≤ i)]
      by_cases c2 : i < ys.length
      · have e : cmpI (xs.length : Int) (ys.length : Int) = -1 := by unfold cmpI; rw [if_pos (by omega)]
        rw [rd_drop ys i c2, e]; rfl
      · have e : cmpI (xs.length : Int) (ys.length : Int) = 0 := by unfold cmpI; rw [if_neg (by omega), if_neg (by omega)]
        rw [e, List.drop_eq_nil_of_le (by omega : ys.length ≤ i)]; rfl
theorem dec_sml (s : ByteArray) : Sml (uDec (bs s)) := fun x hx => by have := scal_b (decode_scals (bs_byt s) x hx); omega
theorem uns_sml {xs : List Int} (h : Sml xs) (h2 : ∀ r ∈ xs, Scal r) : Sml (uns xs) := fun x hx => by
  obtain ⟨r, hr, hx⟩ := List.mem_flatMap.1 hx
  have h1 := scal_b (h2 r hr)
  unfold un at hx
  split at hx
  · simp only [List.mem_cons, List.not_mem_nil, or_false] at hx; rcases hx with rfl | rfl <;> omega
  · simp only [List.mem_cons, List.not_mem_nil, or_false] at hx; subst hx; omega
theorem uns_len (rs : List Int) : (uns rs).length ≤ 2 * rs.length := by
  induction rs with
  | nil => simp [uns]
  | cons r rs ih =>
    have e : uns (r :: rs) = un r ++ uns rs := rfl
    have : (un r).length ≤ 2 := by unfold un; split <;> simp
    rw [e]; simp only [List.length_append, List.length_cons]; omega
theorem rcompare_f (a b : ByteArray) (ha : a.size ≤ 100000) (hb : b.size ≤ 100000) (k : Nat) (hk : 4 * a.size + b.size + 30 ≤ k) : gossamerref2_Compare.f k a b = some (cmpT a b) := by
  have h3 := bs_dec a
  have h4 := bs_dec b
  have h5 := uns_len (uDec (bs a))
  unfold gossamerref2_Compare.f
  rw [runits_f a (by omega) k (by omega), Option.bind_some, runits_f b (by omega) k (by omega), Option.bind_some]
  have := rcmp_l0 (uns (uDec (bs a))) (uns (uDec (bs b))) (uns_sml (dec_sml a) (decode_scals (bs_byt a))) (uns_sml (dec_sml b) (decode_scals (bs_byt b))) (by omega) _ 0 k (Nat.zero_add _).symm (by omega) (by omega)
  rw [show ((0 : Nat) : Int) = 0 from rfl] at this
  rw [this]; rfl
theorem rpoints_f (a b : ByteArray) (ha : a.size ≤ 100000) (hb : b.size ≤ 100000) (k : Nat) (hk : 4 * a.size + b.size + 30 ≤ k) : gossamerref2_Points.f k a b = some (ptsT a b) := by
  have h1 := bs_len a
  have h2 := bs_len b
  have h3 := bs_dec a
  have h4 := bs_dec b
  unfold gossamerref2_Points.f
  rw [if_pos (by omega), rdecode_ok _ (bs_byt a) (by omega) k (by omega), Option.bind_some, if_pos (by omega), rdecode_ok _ (bs_byt b) (by omega) k (by omega), Option.bind_some]
  have := rpts_l0 (uDec (bs a)) (uDec (bs b)) (dec_sml a) (dec_sml b) (by omega) _ 0 k (Nat.zero_add _).symm (by omega) (by omega)
  rw [show ((0 : Nat) : Int) = 0 from rfl] at this
  rw [this]; rfl
theorem unitsEq_l0 (xs : List Int) (hl : xs.length ≤ 1000000) : ∀ (n i k : Nat), xs.length = i + n → n < k → gossamerlaw0_Units.l0 k xs xs (i : Int) = some true
  | n, i, k, hn, hk => by
    obtain ⟨k, rfl⟩ : ∃ q, k = q + 1 := ⟨k - 1, by omega⟩
    simp only [gossamerlaw0_Units.l0]
    by_cases c : i < xs.length
    · obtain ⟨n, rfl⟩ : ∃ q, n = q + 1 := ⟨n - 1, by omega⟩
      rw [if_pos (by omega), if_pos (by omega), if_pos (by omega), if_pos trivial, w64 (by omega) (by omega)]
      exact unitsEq_l0 xs hl n (i + 1) k (by omega) (by omega)
    · rw [if_neg (by omega)]
theorem tot2 (a b : ByteArray) : totL [a, b] = a.size + b.size + 2 := by simp [totL]; omega
theorem tot3 (a b c : ByteArray) : totL [a, b, c] = a.size + b.size + c.size + 3 := by simp [totL]; omega
theorem OrderTells : gossamerlaw2_OrderTells.Pure := by
  intro a b _ _
  refine ⟨5000, ?_⟩
  obtain ⟨r, hr, hl⟩ := long_f 400 [a, b] (by simp) (by omega) (by omega) 5000 (by simp)
  unfold gossamerlaw2_OrderTells.f
  rw [hr, Option.bind_some]
  cases r with
  | true => rw [if_pos rfl, awake_f _ (by omega)]; rfl
  | false =>
    have hl := hl rfl
    rw [tot2] at hl
    have h3 := bs_dec a
    have h5 := uns_len (uDec (bs a))
    have hu := unitsEq_l0 (uns (uDec (bs a))) (by omega) _ 0 5000 (Nat.zero_add _).symm (by omega)
    rw [show ((0 : Nat) : Int) = 0 from rfl] at hu
    rw [if_neg (by simp), units_f a (by omega) _ (by omega), Option.bind_some, runits_f a (by omega) _ (by omega), Option.bind_some]
    unfold gossamerlaw0_Units.f
    rw [if_pos rfl, hu, Option.bind_some, if_pos rfl, compare_f a b (by omega) (by omega) _ (by omega), Option.bind_some, rcompare_f a b (by omega) (by omega) _ (by omega), Option.bind_some, if_pos rfl, points_f a b (by omega) (by omega) _ (by omega), Option.bind_some, rpoints_f a b (by omega) (by omega) _ (by omega), Option.bind_some, if_pos rfl, awake_f _ (by omega)]
    rfl

end Go.Proofs.Ytgabddjdgcembaa.LinkOrd
