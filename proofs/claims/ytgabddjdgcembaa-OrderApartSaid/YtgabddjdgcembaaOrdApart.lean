/- The orders of texts in plain numbers and lists: which one is less by its units, and by its code points. No condition beyond those named in each theorem. -/
import Derived.Test.YtgabddjdgcembaaOrdM
import Derived.Test.YtgabddjdgcembaaOrdL
import Derived.Test.YtgabddjdgcembaaPOrdx8
import Derived.Test.YtgabddjdgcembaaPOrdx14
import Derived.Test.YtgabddjdgcembaaPOrdx17
import Derived.Test.YtgabddjdgcembaaPOrdx18
namespace Go.Proofs.Ytgabddjdgcembaa.LinkOrd
open Go Go.RowKit Go.Proofs.Ytgabddjdgcembaa Go.Proofs.Ytgabddjdgcembaa.POrd Go.Proofs.YtgabddjdgcembaaW.PrintWords Go.Proofs.YtgabddjdgcembaaW.PrintLast Go.Proofs.YtgabddjdgcembaaW.PrintMore Go.Proofs.Ytgabddjdgcembaa.Utf Go.Lib
set_option linter.unusedVariables false
set_option linter.unusedSimpArgs false
set_option maxRecDepth 100000
theorem seq_ok (c : Int) (h : 0 ≤ c ∧ c < 256) (k : Nat) (hk : 4 ≤ k) :
    gossamerref1_seq.f k c = some (match uLead c with | none => (0, 0, 0) | some (m, r, lo, hi) => ((m : Int) + 1, if m = 0 then 0 else lo, if m = 0 then 0 else hi)) := by
  obtain ⟨k, rfl⟩ : ∃ m, k = m + 4 := ⟨k - 4, by omega⟩
  unfold gossamerref1_seq.f uLead
  simp only [gossamerref1_seq.j0, gossamerref1_seq.j1, gossamerref1_seq.j2, decide_eq_true_eq, ge_iff_le]
  by_cases c1 : c < 128
  · simp only [if_pos c1, if_pos (show c ≤ 127 by omega)]; rfl
  · by_cases c2 : c < 194
    · simp only [if_neg c1, if_pos c2, if_neg (show ¬ c ≤ 127 by omega), if_neg (show ¬ 194 ≤ c by omega), if_neg (show ¬ 225 ≤ c by omega), if_neg (show ¬ 241 ≤ c by omega), if_neg (show ¬ c = 224 by omega), if_neg (show ¬ c = 237 by omega), if_neg (show ¬ c = 240 by omega), if_neg (show ¬ c = 244 by omega), Bool.false_eq_true, if_false]
    · by_cases c3 : c < 224
      · simp only [if_neg c1, if_neg c2, if_pos c3, if_neg (show ¬ c ≤ 127 by omega), if_pos (show 194 ≤ c by omega), if_pos (show c ≤ 223 by omega)]; rfl
      · by_cases c4 : c < 240
        · simp only [if_neg c1, if_neg c2, if_neg c3, if_pos c4, if_neg (show ¬ c ≤ 127 by omega), if_pos (show 194 ≤ c by omega), if_neg (show ¬ c ≤ 223 by omega), if_pos (show c ≤ 239 by omega)]
          by_cases d1 : c = 224
          · subst d1; simp
          · by_cases d2 : c = 237
            · subst d2; simp
            · simp [d1, d2]; omega
        · by_cases c5 : c < 245
          · simp only [if_neg c1, if_neg c2, if_neg c3, if_neg c4, if_pos c5, if_neg (show ¬ c ≤ 127 by omega), if_pos (show 194 ≤ c by omega), if_neg (show ¬ c ≤ 223 by omega), if_neg (show ¬ c ≤ 239 by omega), if_neg (show ¬ c = 224 by omega), if_neg (show ¬ c = 237 by omega), if_pos (show 225 ≤ c by omega)]
            by_cases d1 : c = 240
            · subst d1; simp
            · by_cases d2 : c = 244
              · subst d2; simp
              · rw [if_neg d1, if_pos (by omega), if_pos (by omega)]; simp [d1, d2]
          · simp only [if_neg c1, if_neg c2, if_neg c3, if_neg c4, if_neg c5, if_neg (show ¬ c ≤ 127 by omega), if_pos (show 194 ≤ c by omega), if_neg (show ¬ c ≤ 223 by omega), if_neg (show ¬ c ≤ 239 by omega), if_neg (show ¬ c = 224 by omega), if_neg (show ¬ c = 237 by omega), if_neg (show ¬ c = 240 by omega), if_neg (show ¬ c = 244 by omega), if_pos (show 225 ≤ c by omega), if_pos (show 241 ≤ c by omega), if_neg (show ¬ c ≤ 243 by omega)]

theorem i32_and31 (x : Int) (h₀ : 0 ≤ x) (h₁ : x < 256) : Go.bits .and .i32 x 31 = x % 32 := bits_mask .i32 31 (by decide) wraps_i32 5 (by decide) x h₀ (by omega)
theorem i32_and15 (x : Int) (h₀ : 0 ≤ x) (h₁ : x < 256) : Go.bits .and .i32 x 15 = x % 16 := bits_mask .i32 31 (by decide) wraps_i32 4 (by decide) x h₀ (by omega)
theorem i32_and7 (x : Int) (h₀ : 0 ≤ x) (h₁ : x < 256) : Go.bits .and .i32 x 7 = x % 8 := bits_mask .i32 31 (by decide) wraps_i32 3 (by decide) x h₀ (by omega)

theorem lead_mask {c : Int} (h : 0 ≤ c ∧ c < 256) {m : Nat} {r lo hi : Int} (e : uLead c = some (m, r, lo, hi)) (hm : m ≠ 0) :
    Go.bits .and .i32 (wrap32 c) (shr .i32 255 (wrap64 ((m : Int) + 1 + 1))) = r := by
  rw [w32 (by omega) (by omega)]
  have s1 : shr .i32 255 (wrap64 (((1 : Nat) : Int) + 1 + 1)) = 31 := by decide +kernel
  have s2 : shr .i32 255 (wrap64 (((2 : Nat) : Int) + 1 + 1)) = 15 := by decide +kernel
  have s3 : shr .i32 255 (wrap64 (((3 : Nat) : Int) + 1 + 1)) = 7 := by decide +kernel
  unfold uLead at e
  repeat' split at e
  all_goals simp at e
  all_goals obtain ⟨rfl, rfl, rfl, rfl⟩ := e
  all_goals first | exact absurd rfl hm | (rw [s1]; exact i32_and31 c h.1 h.2) | (rw [s2]; exact i32_and15 c h.1 h.2) | (rw [s3]; exact i32_and7 c h.1 h.2)

theorem rnext_l0 (xs : List Int) (hb : Byt xs) (hl : xs.length ≤ 140737488351232) : ∀ (n : Nat) (k i : Nat) (r lo hi m : Int), 0 ≤ r → (r + 1) * 64 ^ n ≤ 2147483648 → 1 ≤ i → m = (i : Int) + n → m ≤ 4 → n < k →
    gossamerref1_Next.l0 k xs m lo hi r i = some (uTail n r lo hi i (xs.drop i))
  | 0, k, i, r, lo, hi, m, _, _, h1, hm, hm3, hk => by
    obtain ⟨k, rfl⟩ : ∃ q, k = q + 1 := ⟨k - 1, by omega⟩
    simp only [gossamerref1_Next.l0, uTail]
    rw [if_neg (by omega), show m = i by omega]
  | n + 1, k, i, r, lo, hi, m, h0, hr, h1, hm, hm3, hk => by
    obtain ⟨k, rfl⟩ : ∃ q, k = q + 1 := ⟨k - 1, by omega⟩
    simp only [gossamerref1_Next.l0]
    rw [if_pos (by omega)]
    by_cases c : i < xs.length
    · have hrd := rd_byt hb i c
      have hpp : (1 : Int) ≤ 64 ^ n := by have hp : 1 ≤ 64 ^ n := Nat.one_le_pow n 64 (by omega); exact_mod_cast hp
      have hr' : (r + 1) * 64 * 64 ^ n ≤ 2147483648 := by rw [Int.mul_assoc, ← Int.pow_succ']; exact hr
      have hrb : (r + 1) * 64 ≤ 2147483648 := Int.le_trans (by have := Int.mul_le_mul_of_nonneg_left hpp (show (0 : Int) ≤ (r + 1) * 64 by omega); omega) hr'
      rw [if_neg (by omega), if_pos (by omega), if_pos (by omega), rd_drop xs i c]
      simp only [uTail]
      by_cases d1 : rd xs (i : Int) < lo
      · rw [if_pos d1, if_pos d1]
      · rw [if_neg d1, if_neg d1]
        by_cases d2 : rd xs (i : Int) > hi
        · rw [if_pos d2, if_pos d2]
        · rw [if_neg d2, if_neg d2, step6 h0 (by omega) hrd, w64 (by omega) (by omega)]
          have := rnext_l0 xs hb hl n k (i + 1) (r * 64 + rd xs (i : Int) % 64) 128 191 m (by omega) (Int.le_trans (Int.mul_le_mul_of_nonneg_right (by omega) (by omega)) hr') (by omega) (by omega) hm3 (by omega)
          rw [Int.natCast_add] at this
          exact this
    · rw [if_pos (by omega), List.drop_eq_nil_of_le (by omega)]
      rfl

theorem rnext_ok (xs : List Int) (hb : Byt xs) (hl : xs.length ≤ 140737488351232) (k : Nat) (hk : 8 ≤ k) : gossamerref1_Next.f k xs = some (uNext xs) := by
  unfold gossamerref1_Next.f
  cases xs with
  | nil => rfl
  | cons b bs =>
    rw [if_neg (by simp only [List.length_cons]; omega), if_pos (by simp only [List.length_cons]; omega)]
    have e : rd (b :: bs) 0 = b := rfl
    rw [e, seq_ok b hb.head k (by omega)]
    simp only [Option.bind_some, uNext]
    cases hl' : uLead b with
    | none => rfl
    | some x =>
      obtain ⟨m, r, lo, hi⟩ := x
      have h1 := lead_m hl'
      have h2 := lead_b hb.head hl'
      simp only
      rw [if_neg (by omega)]
      by_cases hm : m = 0
      · obtain ⟨h3, rfl⟩ := h1.2 hm
        subst hm
        simp only [uTail]
        rw [if_pos (by omega), w32 (by have := hb.head; omega) (by have := hb.head; omega)]
      · rw [if_neg (by omega), if_pos (by rw [w64 (by omega) (by omega)]; omega), lead_mask hb.head hl' hm, if_neg hm, if_neg hm]
        exact rnext_l0 (b :: bs) hb hl m k 1 r lo hi (m + 1) h2.2.1 h2.2.2 (by omega) (by omega) (by omega) (by omega)


theorem rvalid_l0 (ys : List Int) (hb : Byt ys) (hl : ys.length ≤ 140737488351232) : ∀ (n : Nat) (i : Nat) (k : Nat), ys.length ≤ i + n → i ≤ ys.length → n + 9 ≤ k → gossamerref1_Valid.l0 k ys i = some (uValid (ys.drop i))
  | n, i, k, hn, hi, hk => by
    obtain ⟨k, rfl⟩ : ∃ q, k = q + 1 := ⟨k - 1, by omega⟩
    simp only [gossamerref1_Valid.l0]
    by_cases e : i < ys.length
    · have h0 : ys.drop i ≠ [] := by intro h; have := congrArg List.length h; simp at this; omega
      have h4 := next_n _ h0
      simp only [List.length_drop] at h4
      rw [if_pos (by omega), if_pos (by omega), if_pos (by omega), Int.toNat_natCast, rnext_ok (ys.drop i) (hb.drop _) (by simp; omega) k (by omega), valid_step h0]
      simp only [Option.bind_some]
      cases (uNext (ys.drop i)).2.2 with
      | false => simp
      | true =>
        rw [if_pos rfl, Bool.true_and, w64 (by omega) (by omega), List.drop_drop]
        cases n with
        | zero => omega
        | succ n =>
          have e2 : ((i : Int) + (uNext (ys.drop i)).2.1) = ((i + (uNext (ys.drop i)).2.1.toNat : Nat) : Int) := by omega
          rw [e2]
          exact rvalid_l0 ys hb hl n _ k (by omega) (by omega) (by omega)
    · rw [if_neg (by omega), List.drop_eq_nil_of_le (by omega), valid_nil]
theorem rvalid_ok (xs : List Int) (hb : Byt xs) (hl : xs.length ≤ 140737488351232) (k : Nat) (hk : xs.length + 9 ≤ k) : gossamerref1_Valid.f k xs = some (uValid xs) :=
  rvalid_l0 xs hb hl xs.length 0 k (by omega) (by omega) hk

section
variable (y : Int)
theorem i32_or192 (h₀ : 0 ≤ y) (h₁ : y < 32) : bits .or .i32 192 y = 192 + y :=
  bits_join .i32 31 (by decide) wraps_i32 5 192 y (by decide) (by decide) (by decide) h₀ h₁ (by omega)
theorem i32_or224 (h₀ : 0 ≤ y) (h₁ : y < 16) : bits .or .i32 224 y = 224 + y :=
  bits_join .i32 31 (by decide) wraps_i32 4 224 y (by decide) (by decide) (by decide) h₀ h₁ (by omega)
theorem i32_or240 (h₀ : 0 ≤ y) (h₁ : y < 8) : bits .or .i32 240 y = 240 + y :=
  bits_join .i32 31 (by decide) wraps_i32 3 240 y (by decide) (by decide) (by decide) h₀ h₁ (by omega)
theorem i32_or128 (h₀ : 0 ≤ y) (h₁ : y < 64) : bits .or .i32 128 y = 128 + y :=
  bits_join .i32 31 (by decide) wraps_i32 6 128 y (by decide) (by decide) (by decide) h₀ h₁ (by omega)
theorem i32_and63 (h₀ : 0 ≤ y) (h₁ : y < 2147483648) : bits .and .i32 y 63 = y % 64 :=
  bits_mask .i32 31 (by decide) wraps_i32 6 (by decide) y h₀ (by omega)
end
theorem bytes_ok (r : Int) (k : Nat) (hk : 1 ≤ k) : gossamerref1_Bytes.f k r = some (uPt (uFix r)) := by
  obtain ⟨k, rfl⟩ : ∃ m, k = m + 1 := ⟨k - 1, by omega⟩
  have bad : uPt 65533 = [239, 191, 189] := by decide
  have t1 : ∀ x : Int, gossamerref1_Bytes.j0 (k + 1) x true = some [239, 191, 189] := fun x => by simp only [gossamerref1_Bytes.j0]; rfl
  have t2 : ∀ x : Int, 0 ≤ x → x ≤ 1114111 → gossamerref1_Bytes.j0 (k + 1) x false = some (uPt x) := by
    intro x h0 h1
    simp only [gossamerref1_Bytes.j0]
    unfold uPt
    rw [if_neg (by simp)]
    by_cases c1 : x ≤ 127
    · rw [if_pos c1, if_pos (by omega), show x % 256 = x by omega]
    · rw [if_neg c1, if_neg (show ¬ x < 128 by omega)]
      by_cases c2 : x ≤ 2047
      · rw [if_pos c2, if_pos (show x < 2048 by omega), i32_or192 _ (by omega) (by omega), i32_and63 _ (by omega) (by omega), i32_or128 _ (by omega) (by omega), show (192 + x / 64) % 256 = 192 + x / 64 by omega, show (128 + x % 64) % 256 = 128 + x % 64 by omega]
      · rw [if_neg c2, if_neg (show ¬ x < 2048 by omega)]
        by_cases c3 : x ≤ 65535
        · rw [if_pos c3, if_pos (show x < 65536 by omega), i32_or224 _ (by omega) (by omega), i32_and63 (x / 64) (by omega) (by omega), i32_and63 x (by omega) (by omega), i32_or128 _ (by omega) (by omega), i32_or128 _ (by omega) (by omega), show (224 + x / 4096) % 256 = 224 + x / 4096 by omega, show (128 + x / 64 % 64) % 256 = 128 + x / 64 % 64 by omega, show (128 + x % 64) % 256 = 128 + x % 64 by omega]
        · rw [if_neg c3, if_neg (show ¬ x < 65536 by omega), i32_or240 _ (by omega) (by omega), i32_and63 (x / 4096) (by omega) (by omega), i32_and63 (x / 64) (by omega) (by omega), i32_and63 x (by omega) (by omega), i32_or128 _ (by omega) (by omega), i32_or128 _ (by omega) (by omega), i32_or128 _ (by omega) (by omega), show (240 + x / 262144) % 256 = 240 + x / 262144 by omega, show (128 + x / 4096 % 64) % 256 = 128 + x / 4096 % 64 by omega, show (128 + x / 64 % 64) % 256 = 128 + x / 64 % 64 by omega, show (128 + x % 64) % 256 = 128 + x % 64 by omega]
  unfold gossamerref1_Bytes.f uFix
  by_cases c1 : r < 0
  · rw [if_pos c1, if_pos c1, t1, bad]
  · rw [if_neg c1, if_neg c1]
    by_cases c2 : r > 1114111
    · rw [if_pos c2, if_pos c2, t1, bad]
    · rw [if_neg c2, if_neg c2]
      by_cases c3 : r ≥ 55296
      · rw [if_pos c3]
        by_cases c4 : r ≤ 57343
        · rw [decide_eq_true c4, t1, if_pos ⟨c3, c4⟩, bad]
        · rw [decide_eq_false c4, t2 r (by omega) (by omega), if_neg (by omega)]
      · rw [if_neg c3, t2 r (by omega) (by omega), if_neg (by omega)]
theorem bytes_c (r : Int) (w : World) :
    Calls Try.prog 25 #[.int .i32 r] w fun e w' => ∃ v, e = .returned v ∧ Kd.R (Kd.int .u8) 5 w' w.heap.size (fun _ => True) v (uPt (uFix r)) ∧ Below w.heap.size w w' :=
  gossamerref1_Bytes.calls 1 r _ w (bytes_ok r 1 (by omega))

/-- A number, from 0 to below n. -/
def uLow (x n : Int) : Int := (x % 18446744073709551616) % n
theorem uLow_b (x n : Int) (h : 0 < n) : 0 ≤ uLow x n ∧ uLow x n < n := by
  unfold uLow
  exact ⟨Int.emod_nonneg _ (by omega), Int.emod_lt_of_pos _ h⟩
theorem low_f (x n : Int) (h : 0 < n) (h1 : n < 4611686018427387904) : gossamerlaw0_Low.f x n = some (uLow x n) := by
  have e1 : IntKind.u64.wrap n = n := by simp only [IntKind.wrap, IntKind.bits, IntKind.signed]; simp; omega
  have e2 : IntKind.u64.wrap x = x % 18446744073709551616 := by simp [IntKind.wrap, IntKind.bits, IntKind.signed]
  have hb := uLow_b x n h
  unfold gossamerlaw0_Low.f
  rw [e1, e2, if_neg (by omega), Int.tmod_eq_emod_of_nonneg (Int.emod_nonneg _ (by omega))]
  show some (wrap64 (uLow x n)) = _
  rw [w64 (by omega) (by omega)]
theorem low_c (x n : Int) (w : World) (h : 0 < n) (h1 : n < 4611686018427387904) :
    Calls Try.prog 22 #[.int .i64 x, .int .i64 n] w fun e w' => e = .returned (.int .i64 (uLow x n)) ∧ Below w.heap.size w w' :=
  (gossamerlaw0_Low.calls x n _ w (low_f x n h h1)).mono fun e w' h => ⟨h.1, h.2.below⟩

/-- A code point that may be, of a number. -/
def uScal (x : Int) : Int := if 55296 ≤ uLow x 1114112 ∧ uLow x 1114112 ≤ 57343 then uLow x 1114112 - 55296 else uLow x 1114112
theorem uScal_ok (x : Int) : Scal (uScal x) := by
  have := uLow_b x 1114112 (by omega)
  unfold uScal Scal
  split <;> omega
theorem scalar_f (x : Int) : gossamerlaw0_Scalar.f x = some (uScal x) := by
  have hb := uLow_b x 1114112 (by omega)
  unfold gossamerlaw0_Scalar.f uScal
  rw [low_f x 1114112 (by omega) (by omega)]
  simp only [Option.bind_some]
  rw [w32 (by omega) (by omega)]
  by_cases c1 : uLow x 1114112 ≥ 55296
  · rw [if_pos c1]
    by_cases c2 : uLow x 1114112 ≤ 57343
    · rw [if_pos c2, if_pos ⟨c1, c2⟩, w32 (by omega) (by omega)]
    · rw [if_neg c2, if_neg (by omega)]
  · rw [if_neg c1, if_neg (by omega)]
theorem scalar_c (x : Int) (w : World) :
    Calls Try.prog 24 #[.int .i64 x] w fun e w' => e = .returned (.int .i32 (uScal x)) ∧ Below w.heap.size w w' :=
  (gossamerlaw0_Scalar.calls x _ w (scalar_f x)).mono fun e w' h => ⟨h.1, h.2.below⟩

theorem bs_str {xs : List Int} (h : Byt xs) : bs (strOfNums xs) = xs := by
  unfold bs Go.Proofs.YtgabddjdgcembaaW.PrintWords.bytesOf strOfNums
  simp only [List.map_map]
  conv => rhs; rw [← List.map_id xs]
  refine List.map_congr_left fun x hx => ?_
  have := h x hx
  simp only [Function.comp, UInt8.toNat_ofNat', id]
  omega

theorem tot3 (a b c : ByteArray) : totL [a, b, c] = a.size + b.size + c.size + 3 := by simp [totL]; omega
theorem strOf_len (r : Int) : (strOfNums (uPt r)).size ≤ 4 := by
  rw [strOf_size]; unfold uPt; split <;> (try split) <;> (try split) <;> simp
theorem dec_with (p a : ByteArray) (hv : uValid (bs p) = true) {r : Int} (h : Scal r) : uDec (bs (p ++ strOfNums (uPt r) ++ a)) = uDec (bs p) ++ r :: uDec (bs a) := by
  rw [bs_append, bs_append, bs_str (enc_byt h), List.append_assoc, (decode_parts (bs_byt p) hv _).1, decode_enc h]
theorem apart_cmp {r s : Int} (hr : Scal r) (hs : Scal s) (h : r ≠ s) : cmpI (wt r) (wt s) = if (65535 < r ∧ 57344 ≤ s ∧ s ≤ 65535) ∨ (65535 < s ∧ 57344 ≤ r ∧ r ≤ 65535) then -cmpI r s else cmpI r s := by
  unfold Scal at hr hs
  unfold cmpI wt
  split <;> (try split) <;> (try split) <;> (try split) <;> (try split) <;> (try split) <;> omega
theorem OrderApart : gossamerlaw2_OrderApart.Pure := by
  intro p m n a b _ _ _ _ _
  refine ⟨5000, ?_⟩
  obtain ⟨q, hq, hl⟩ := long_f 200 [p, a, b] (by simp) (by omega) (by omega) 5000 (by simp)
  have haw : ∀ k x, 80 ≤ k → x = true → gossamerlaw2_OrderApart.j0 (k + 1) p m n a b x = some true := fun k x hk hx => by
    subst hx
    simp only [gossamerlaw2_OrderApart.j0]
    rw [if_pos trivial, awake_f k hk]; rfl
  unfold gossamerlaw2_OrderApart.f
  rw [hq, Option.bind_some]
  cases q with
  | true => rw [if_pos rfl]; exact haw 4999 _ (by omega) rfl
  | false =>
    have hl := hl rfl
    rw [tot3] at hl
    rw [if_neg (by simp), if_pos (by omega), rvalid_ok _ (bs_byt p) (by rw [bs_len]; omega) 5000 (by rw [bs_len]; omega), Option.bind_some]
    cases hv : uValid (bs p) with
    | false => exact haw 4999 _ (by omega) rfl
    | true =>
      simp only [gossamerlaw2_OrderApart.j0, Bool.not_true]
      rw [if_neg (by simp), scalar_f, Option.bind_some, scalar_f, Option.bind_some]
      have hr := uScal_ok m
      have hs := uScal_ok n
      generalize uScal m = r at *
      generalize uScal n = s at *
      by_cases e : r = s
      · rw [if_pos e, awake_f _ (by omega)]; rfl
      have f1 : uFix r = r := fix_eq hr
      have f2 : uFix s = s := fix_eq hs
      have l1 := strOf_len r
      have l2 := strOf_len s
      have s1 : (p ++ strOfNums (uPt r)).size = p.size + (strOfNums (uPt r)).size := by simp
      have s2 : (p ++ strOfNums (uPt s)).size = p.size + (strOfNums (uPt s)).size := by simp
      have s3 : (p ++ strOfNums (uPt r) ++ a).size = p.size + (strOfNums (uPt r)).size + a.size := by simp
      have s4 : (p ++ strOfNums (uPt s) ++ b).size = p.size + (strOfNums (uPt s)).size + b.size := by simp
      have hP : ptsT (p ++ strOfNums (uPt r) ++ a) (p ++ strOfNums (uPt s) ++ b) = cmpI r s := by
        unfold ptsT; rw [dec_with p a hv hr, dec_with p b hv hs]; exact lexP_ne _ _ _ e
      have hC : cmpT (p ++ strOfNums (uPt r) ++ a) (p ++ strOfNums (uPt s) ++ b) = cmpI (wt r) (wt s) := by
        rw [cmpT_w, dec_with p a hv hr, dec_with p b hv hs, List.map_append, List.map_append, List.map_cons, List.map_cons]
        exact lexP_ne _ _ _ (fun h => e (wt_inj hr hs h))
      rw [if_neg e, bytes_ok r _ (by omega), f1, Option.bind_some, if_pos (by omega), if_pos (by omega), bytes_ok s _ (by omega), f2, Option.bind_some, if_pos (by omega), if_pos (by omega)]
      have kp : ∀ k, 1000 ≤ k → order_Points.f k (p ++ strOfNums (uPt r) ++ a) (p ++ strOfNums (uPt s) ++ b) = some (cmpI r s) := fun k hk => by rw [points_f _ _ (by omega) (by omega) k (by omega), hP]
      have kc : ∀ k, 1000 ≤ k → order_Compare.f k (p ++ strOfNums (uPt r) ++ a) (p ++ strOfNums (uPt s) ++ b) = some (cmpI (wt r) (wt s)) := fun k hk => by rw [compare_f _ _ (by omega) (by omega) k (by omega), hC]
      have hap := apart_cmp hr hs e
      generalize p ++ strOfNums (uPt r) ++ a = x at *
      generalize p ++ strOfNums (uPt s) ++ b = y at *
      have fin2 : ∀ k, 1100 ≤ k → ∀ odd w, w = cmpI r s → (odd = true ↔ (65535 < r ∧ 57344 ≤ s ∧ s ≤ 65535) ∨ (65535 < s ∧ 57344 ≤ r ∧ r ≤ 65535)) → gossamerlaw2_OrderApart.j2 k x y odd w = some true := fun k hk odd w hw ho => by
        obtain ⟨k, rfl⟩ : ∃ q, k = q + 1 := ⟨k - 1, by omega⟩
        simp only [gossamerlaw2_OrderApart.j2]
        have wr := cmpI_range r s
        rw [kp k (by omega), Option.bind_some, if_pos hw.symm, kc k (by omega), awake_f k (by omega), hap]
        cases odd with
        | true => rw [if_pos rfl, if_pos (ho.1 rfl), Option.bind_some, hw, w64 (by omega) (by omega), if_pos rfl]; rfl
        | false => rw [if_neg (by simp), if_neg (fun h => by have := ho.2 h; cases this), Option.bind_some, hw, if_pos rfl]; rfl
      have fin1 : ∀ k, 1200 ≤ k → ∀ odd, (odd = true ↔ (65535 < r ∧ 57344 ≤ s ∧ s ≤ 65535) ∨ (65535 < s ∧ 57344 ≤ r ∧ r ≤ 65535)) → gossamerlaw2_OrderApart.j1 k r s x y odd = some true := fun k hk odd ho => by
        obtain ⟨k, rfl⟩ : ∃ q, k = q + 1 := ⟨k - 1, by omega⟩
        simp only [gossamerlaw2_OrderApart.j1]
        by_cases g : r > s
        · rw [if_pos g]; exact fin2 k (by omega) odd 1 (by unfold cmpI; rw [if_neg (by omega), if_pos g]) ho
        · rw [if_neg g]; exact fin2 k (by omega) odd (-1) (by unfold cmpI; rw [if_pos (by omega)]) ho
      have F : ∀ odd, (odd = true ↔ (65535 < r ∧ 57344 ≤ s ∧ s ≤ 65535) ∨ (65535 < s ∧ 57344 ≤ r ∧ r ≤ 65535)) → gossamerlaw2_OrderApart.j1 4999 r s x y odd = some true := fin1 4999 (by omega)
      by_cases a1 : r > 65535
      · rw [if_pos a1]
        by_cases a2 : s ≥ 57344
        · rw [if_pos a2]
          by_cases a3 : s ≤ 65535
          · rw [if_pos a3]; exact F true (by simp; omega)
          · rw [if_neg a3, if_pos (by omega), if_pos (by omega)]; exact F _ (by rw [decide_eq_true_eq]; omega)
        · rw [if_neg a2, if_neg (by omega)]; exact F false (by simp; omega)
      · rw [if_neg a1]
        by_cases a2 : s > 65535
        · rw [if_pos a2]
          by_cases a3 : r ≥ 57344
          · rw [if_pos a3]; exact F _ (by rw [decide_eq_true_eq]; omega)
          · rw [if_neg a3]; exact F false (by simp; omega)
        · rw [if_neg a2]; exact F false (by simp; omega)

end Go.Proofs.Ytgabddjdgcembaa.LinkOrd
