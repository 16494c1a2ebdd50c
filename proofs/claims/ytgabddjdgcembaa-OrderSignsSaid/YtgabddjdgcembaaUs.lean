/- What the UTF-8 of chapter 1 is, over lists of whole numbers: plain definitions and their laws, with no program in sight. -/
import Derived.Laws.BitsLemmas
import Derived.RowKit
namespace Go.Proofs.Ytgabddjdgcembaa.Utf
set_option linter.unusedVariables false
set_option linter.unusedSimpArgs false

def uLead (c : Int) : Option (Nat × Int × Int × Int) :=
  if c < 128 then some (0, c, 128, 191)
  else if c < 194 then none
  else if c < 224 then some (1, c % 32, 128, 191)
  else if c < 240 then some (2, c % 16, if c = 224 then 160 else 128, if c = 237 then 159 else 191)
  else if c < 245 then some (3, c % 8, if c = 240 then 144 else 128, if c = 244 then 143 else 191)
  else none

def uTail : Nat → Int → Int → Int → Int → List Int → Int × Int × Bool
  | 0, r, _, _, i, _ => (r, i, true)
  | _ + 1, _, _, _, i, [] => (65533, i, false)
  | n + 1, r, lo, hi, i, b :: bs => if b < lo then (65533, i, false) else if b > hi then (65533, i, false) else uTail n (r * 64 + b % 64) 128 191 (i + 1) bs

def uNext : List Int → Int × Int × Bool
  | [] => (0, 0, false)
  | b :: bs => match uLead b with
    | none => (65533, 1, false)
    | some (m, r, lo, hi) => uTail m r lo hi 1 bs

/-- Each number is a byte. -/
def Byt (xs : List Int) : Prop := ∀ x ∈ xs, 0 ≤ x ∧ x < 256

theorem Byt.drop {xs : List Int} (h : Byt xs) (n : Nat) : Byt (xs.drop n) := fun x hx => h x (List.mem_of_mem_drop hx)
theorem Byt.take {xs : List Int} (h : Byt xs) (n : Nat) : Byt (xs.take n) := fun x hx => h x (List.mem_of_mem_take hx)
theorem Byt.append {xs ys : List Int} (h : Byt xs) (k : Byt ys) : Byt (xs ++ ys) := fun x hx => (List.mem_append.1 hx).elim (h x) (k x)
theorem Byt.left {xs ys : List Int} (h : Byt (xs ++ ys)) : Byt xs := fun x hx => h x (List.mem_append.2 (.inl hx))
theorem Byt.right {xs ys : List Int} (h : Byt (xs ++ ys)) : Byt ys := fun x hx => h x (List.mem_append.2 (.inr hx))
theorem Byt.head {x : Int} {xs : List Int} (h : Byt (x :: xs)) : 0 ≤ x ∧ x < 256 := h x (List.mem_cons_self ..)
theorem Byt.tail {x : Int} {xs : List Int} (h : Byt (x :: xs)) : Byt xs := fun y hy => h y (List.mem_cons_of_mem _ hy)
theorem Byt.nil : Byt [] := fun x hx => by cases hx
theorem Byt.cons {x : Int} {xs : List Int} (h : 0 ≤ x ∧ x < 256) (k : Byt xs) : Byt (x :: xs) := fun y hy => by
  rcases List.mem_cons.1 hy with rfl | hy
  · exact h
  · exact k y hy
theorem Byt.of_wf {xs : List Int} (h : ∀ x ∈ xs, (Lit.int .u8 x).wf = true) : Byt xs := fun x hx => by
  have := h x hx
  have h8 : IntKind.u8.min = 0 := by decide
  have h9 : IntKind.u8.max = 255 := by decide
  simp [Lit.wf] at this
  omega

/-- How many bytes are taken lies between those before and those there are. -/
theorem tail_n : ∀ (n : Nat) (r lo hi i : Int) (bs : List Int), i ≤ (uTail n r lo hi i bs).2.1 ∧ (uTail n r lo hi i bs).2.1 ≤ i + bs.length ∧ (uTail n r lo hi i bs).2.1 ≤ i + n ∧ ((uTail n r lo hi i bs).2.2 = false → (uTail n r lo hi i bs).2.1 < i + n ∧ (uTail n r lo hi i bs).1 = 65533) ∧ ((uTail n r lo hi i bs).2.2 = true → (uTail n r lo hi i bs).2.1 = i + n)
  | 0, r, lo, hi, i, bs => by
    refine ⟨?_, ?_, ?_, ?_, ?_⟩ <;> simp [uTail] <;> omega
  | n + 1, r, lo, hi, i, [] => by simp [uTail]; omega
  | n + 1, r, lo, hi, i, b :: bs => by
    simp only [uTail]
    split
    · simp; omega
    · split
      · simp; omega
      · have ⟨h1, h2, h3, h4, h5⟩ := tail_n n (r * 64 + b % 64) 128 191 (i + 1) bs
        refine ⟨by omega, by simp only [List.length_cons]; omega, by omega, fun h => ?_, fun h => ?_⟩
        · have := h4 h; exact ⟨by omega, this.2⟩
        · have := h5 h; omega

theorem lead_m {c : Int} {m : Nat} {r lo hi : Int} (h : uLead c = some (m, r, lo, hi)) : m ≤ 3 ∧ (m = 0 → c < 128 ∧ r = c) := by
  unfold uLead at h
  repeat' split at h
  all_goals simp at h
  all_goals obtain ⟨rfl, rfl, rfl, rfl⟩ := h
  all_goals (refine ⟨by omega, fun h => ?_⟩)
  all_goals first | exact ⟨by assumption, rfl⟩ | omega

theorem next_n (xs : List Int) (h : xs ≠ []) : 1 ≤ (uNext xs).2.1 ∧ (uNext xs).2.1 ≤ xs.length ∧ (uNext xs).2.1 ≤ 4 ∧ ((uNext xs).2.2 = false → (uNext xs).1 = 65533 ∧ (uNext xs).2.1 ≤ 3) := by
  cases xs with
  | nil => exact absurd rfl h
  | cons b bs =>
    simp only [uNext]
    split
    · simp; omega
    · rename_i m r lo hi e
      have ⟨h1, h2, h3, h4, _⟩ := tail_n m r lo hi 1 bs
      have := (lead_m e).1
      refine ⟨by omega, by simp only [List.length_cons]; omega, by omega, fun hf => ?_⟩
      have := h4 hf
      exact ⟨this.2, by omega⟩

/-- What follows on a code point that is one counts for nothing. -/
theorem tail_app : ∀ (n : Nat) (r lo hi i : Int) (bs ys : List Int), (uTail n r lo hi i bs).2.2 = true → uTail n r lo hi i (bs ++ ys) = uTail n r lo hi i bs
  | 0, r, lo, hi, i, bs, ys, _ => by simp [uTail]
  | n + 1, r, lo, hi, i, [], ys, h => by simp [uTail] at h
  | n + 1, r, lo, hi, i, b :: bs, ys, h => by
    simp only [uTail, List.cons_append] at h ⊢
    split
    · rename_i c; simp [c] at h
    · rename_i c
      rw [if_neg c] at h
      split
      · rename_i d; simp [d] at h
      · rename_i d; rw [if_neg d] at h; exact tail_app n _ _ _ _ bs ys h
theorem next_app (xs ys : List Int) (h : (uNext xs).2.2 = true) : uNext (xs ++ ys) = uNext xs := by
  cases xs with
  | nil => simp [uNext] at h
  | cons b bs =>
    simp only [uNext, List.cons_append] at h ⊢
    cases e : uLead b with
    | none => rfl
    | some x =>
      obtain ⟨m, r, lo, hi⟩ := x
      rw [e] at h
      exact tail_app m r lo hi 1 bs ys h

/-! ## All code points -/
def uDec (xs : List Int) : List Int :=
  if h : xs = [] then [] else (uNext xs).1 :: uDec (xs.drop (uNext xs).2.1.toNat)
termination_by xs.length
decreasing_by
  have := next_n xs h
  simp only [List.length_drop]
  omega
theorem decode_nil : uDec [] = [] := by rw [uDec]; simp
theorem decode_step {xs : List Int} (h : xs ≠ []) : uDec xs = (uNext xs).1 :: uDec (xs.drop (uNext xs).2.1.toNat) := by
  rw [uDec, dif_neg h]
def uValid (xs : List Int) : Bool :=
  if h : xs = [] then true else (uNext xs).2.2 && uValid (xs.drop (uNext xs).2.1.toNat)
termination_by xs.length
decreasing_by
  have := next_n xs h
  simp only [List.length_drop]
  omega
theorem valid_nil : uValid [] = true := by rw [uValid]; simp
theorem valid_step {xs : List Int} (h : xs ≠ []) : uValid xs = ((uNext xs).2.2 && uValid (xs.drop (uNext xs).2.1.toNat)) := by
  rw [uValid, dif_neg h]

theorem decode_len : ∀ (n : Nat) (xs : List Int), xs.length ≤ n → (uDec xs).length ≤ xs.length
  | 0, xs, h => by
    obtain rfl : xs = [] := List.eq_nil_of_length_eq_zero (by omega)
    simp [decode_nil]
  | n + 1, xs, h => by
    by_cases e : xs = []
    · subst e; simp [decode_nil]
    · have hn := next_n xs e
      rw [decode_step e]
      have := decode_len n (xs.drop (uNext xs).2.1.toNat) (by simp only [List.length_drop]; omega)
      simp only [List.length_drop] at this
      simp only [List.length_cons]
      omega

/-! ## The bytes of code points -/
/-- May a number be a code point? -/
def Scal (r : Int) : Prop := 0 ≤ r ∧ r ≤ 1114111 ∧ ¬ (55296 ≤ r ∧ r ≤ 57343)
def uFix (r : Int) : Int := if r < 0 then 65533 else if r > 1114111 then 65533 else if 55296 ≤ r ∧ r ≤ 57343 then 65533 else r
theorem fix_scal (r : Int) : Scal (uFix r) := by
  unfold uFix Scal
  repeat' split
  all_goals omega
theorem fix_eq {r : Int} (h : Scal r) : uFix r = r := by
  unfold uFix Scal at *
  repeat' split
  all_goals omega
/-- The bytes of a code point that may be. -/
def uPt (r : Int) : List Int :=
  if r < 128 then [r]
  else if r < 2048 then [192 + r / 64, 128 + r % 64]
  else if r < 65536 then [224 + r / 4096, 128 + r / 64 % 64, 128 + r % 64]
  else [240 + r / 262144, 128 + r / 4096 % 64, 128 + r / 64 % 64, 128 + r % 64]
def uEnc (rs : List Int) : List Int := rs.flatMap fun r => uPt (uFix r)
theorem encode_nil : uEnc [] = [] := rfl
theorem encode_cons (r : Int) (rs : List Int) : uEnc (r :: rs) = uPt (uFix r) ++ uEnc rs := rfl
theorem encode_append (a b : List Int) : uEnc (a ++ b) = uEnc a ++ uEnc b := by simp [uEnc]
theorem enc_len {r : Int} : 1 ≤ (uPt r).length ∧ (uPt r).length ≤ 4 := by
  unfold uPt; repeat' split
  all_goals simp
theorem enc_ne (r : Int) : uPt r ≠ [] := by
  intro h; have := @enc_len r; rw [h] at this; simp at this
theorem enc_byt {r : Int} (h : Scal r) : Byt (uPt r) := by
  obtain ⟨h0, h1, h2⟩ := h
  unfold uPt
  repeat' split
  all_goals (repeat' (first | exact Byt.nil | refine Byt.cons ?_ ?_))
  all_goals omega
theorem encode_byt (rs : List Int) : Byt (uEnc rs) := by
  induction rs with
  | nil => exact Byt.nil
  | cons r rs ih => rw [encode_cons]; exact (enc_byt (fix_scal r)).append ih

/-- A code point's bytes are read as it. -/
theorem next_enc {r : Int} (h : Scal r) : uNext (uPt r) = (r, ((uPt r).length : Int), true) := by
  obtain ⟨h0, h1, h2⟩ := h
  unfold uPt
  split
  · simp only [uNext, uLead, if_pos (by assumption : r < 128), uTail]; rfl
  · split
    · have e1 : (192 + r / 64) % 32 = r / 64 := by omega
      have e2 : (128 + r % 64) % 64 = r % 64 := by omega
      have e3 : r / 64 * 64 + r % 64 = r := by omega
      simp only [uNext, uLead, uTail, if_neg (show ¬ (192 + r / 64 < 128) by omega), if_neg (show ¬ (192 + r / 64 < 194) by omega), if_pos (show 192 + r / 64 < 224 by omega), e1, e2, if_neg (show ¬ (128 + r % 64 < 128) by omega), if_neg (show ¬ (128 + r % 64 > 191) by omega), e3]; rfl
    · split
      · have e1 : (224 + r / 4096) % 16 = r / 4096 := by omega
        have e2 : (128 + r % 64) % 64 = r % 64 := by omega
        have e3 : (128 + r / 64 % 64) % 64 = r / 64 % 64 := by omega
        have e4 : (r / 4096 * 64 + r / 64 % 64) * 64 + r % 64 = r := by omega
        have a1 : ¬ (128 + r / 64 % 64 < if 224 + r / 4096 = 224 then 160 else 128) := by split <;> omega
        have a2 : ¬ (128 + r / 64 % 64 > if 224 + r / 4096 = 237 then 159 else 191) := by split <;> omega
        simp only [uNext, uLead, uTail, if_neg (show ¬ (224 + r / 4096 < 128) by omega), if_neg (show ¬ (224 + r / 4096 < 194) by omega), if_neg (show ¬ (224 + r / 4096 < 224) by omega), if_pos (show 224 + r / 4096 < 240 by omega), e1, e2, e3, if_neg a1, if_neg a2, if_neg (show ¬ (128 + r % 64 < 128) by omega), if_neg (show ¬ (128 + r % 64 > 191) by omega), e4]; rfl
      · have e1 : (240 + r / 262144) % 8 = r / 262144 := by omega
        have e2 : (128 + r % 64) % 64 = r % 64 := by omega
        have e3 : (128 + r / 64 % 64) % 64 = r / 64 % 64 := by omega
        have e5 : (128 + r / 4096 % 64) % 64 = r / 4096 % 64 := by omega
        have e4 : ((r / 262144 * 64 + r / 4096 % 64) * 64 + r / 64 % 64) * 64 + r % 64 = r := by omega
        have a1 : ¬ (128 + r / 4096 % 64 < if 240 + r / 262144 = 240 then 144 else 128) := by split <;> omega
        have a2 : ¬ (128 + r / 4096 % 64 > if 240 + r / 262144 = 244 then 143 else 191) := by split <;> omega
        simp only [uNext, uLead, uTail, if_neg (show ¬ (240 + r / 262144 < 128) by omega), if_neg (show ¬ (240 + r / 262144 < 194) by omega), if_neg (show ¬ (240 + r / 262144 < 224) by omega), if_neg (show ¬ (240 + r / 262144 < 240) by omega), if_pos (show 240 + r / 262144 < 245 by omega), e1, e2, e3, e5, if_neg a1, if_neg a2, if_neg (show ¬ (128 + r % 64 < 128) by omega), if_neg (show ¬ (128 + r % 64 > 191) by omega), if_neg (show ¬ (128 + r / 64 % 64 < 128) by omega), if_neg (show ¬ (128 + r / 64 % 64 > 191) by omega), e4]; rfl
theorem next_enc_app {r : Int} (h : Scal r) (ys : List Int) : uNext (uPt r ++ ys) = (r, ((uPt r).length : Int), true) := by
  rw [next_app _ _ (by rw [next_enc h]), next_enc h]

/-- What is read as a code point is that one's bytes. -/
theorem enc_next {xs : List Int} (hb : Byt xs) (h : (uNext xs).2.2 = true) : Scal (uNext xs).1 ∧ xs = uPt (uNext xs).1 ++ xs.drop (uNext xs).2.1.toNat ∧ (uNext xs).2.1 = (uPt (uNext xs).1).length := by
  cases xs with
  | nil => simp [uNext] at h
  | cons b bs =>
    have b0 := hb.head
    by_cases c1 : b < 128
    · have e : uNext (b :: bs) = (b, 1, true) := by simp only [uNext, uLead, if_pos c1, uTail]
      rw [e]
      refine ⟨⟨b0.1, by simp only; omega, by simp only; omega⟩, ?_, ?_⟩ <;> simp [uPt, c1]
    · by_cases c2 : b < 194
      · simp [uNext, uLead, c1, c2] at h
      · by_cases c3 : b < 224
        · simp only [uNext, uLead, if_neg c1, if_neg c2, if_pos c3] at h ⊢
          cases bs with
          | nil => simp [uTail] at h
          | cons b1 bs =>
            have b1' := hb.tail.head
            simp only [uTail] at h ⊢
            by_cases d1 : b1 < 128
            · simp [d1] at h
            · by_cases d2 : b1 > 191
              · simp [d1, d2] at h
              · simp only [if_neg d1, if_neg d2]
                have e1 : 192 + (b % 32 * 64 + b1 % 64) / 64 = b := by omega
                have e2 : 128 + (b % 32 * 64 + b1 % 64) % 64 = b1 := by omega
                refine ⟨⟨by omega, by omega, by omega⟩, ?_, ?_⟩
                · unfold uPt; rw [if_neg (by omega), if_pos (by omega), e1, e2]; rfl
                · unfold uPt; rw [if_neg (by omega), if_pos (by omega)]; rfl
        · by_cases c4 : b < 240
          · simp only [uNext, uLead, if_neg c1, if_neg c2, if_neg c3, if_pos c4] at h ⊢
            cases bs with
            | nil => simp [uTail] at h
            | cons b1 bs =>
              have b1' := hb.tail.head
              simp only [uTail] at h ⊢
              by_cases d1 : b1 < if b = 224 then 160 else 128
              · simp [d1] at h
              · by_cases d2 : b1 > if b = 237 then 159 else 191
                · simp [d1, d2] at h
                · simp only [if_neg d1, if_neg d2] at h ⊢
                  cases bs with
                  | nil => simp [uTail] at h
                  | cons b2 bs =>
                    have b2' := hb.tail.tail.head
                    simp only [uTail] at h ⊢
                    by_cases d3 : b2 < 128
                    · simp [d3] at h
                    · by_cases d4 : b2 > 191
                      · simp [d3, d4] at h
                      · simp only [if_neg d3, if_neg d4]
                        have d1' : 128 ≤ b1 ∧ (b = 224 → 160 ≤ b1) := by split at d1 <;> omega
                        have d2' : b1 ≤ 191 ∧ (b = 237 → b1 ≤ 159) := by split at d2 <;> omega
                        clear d1 d2
                        have e1 : 224 + ((b % 16 * 64 + b1 % 64) * 64 + b2 % 64) / 4096 = b := by omega
                        have e2 : 128 + ((b % 16 * 64 + b1 % 64) * 64 + b2 % 64) / 64 % 64 = b1 := by omega
                        have e3 : 128 + ((b % 16 * 64 + b1 % 64) * 64 + b2 % 64) % 64 = b2 := by omega
                        refine ⟨⟨by omega, by omega, by omega⟩, ?_, ?_⟩
                        · unfold uPt; rw [if_neg (by omega), if_neg (by omega), if_pos (by omega), e1, e2, e3]; rfl
                        · unfold uPt; rw [if_neg (by omega), if_neg (by omega), if_pos (by omega)]; rfl
          · by_cases c5 : b < 245
            · simp only [uNext, uLead, if_neg c1, if_neg c2, if_neg c3, if_neg c4, if_pos c5] at h ⊢
              cases bs with
              | nil => simp [uTail] at h
              | cons b1 bs =>
                have b1' := hb.tail.head
                simp only [uTail] at h ⊢
                by_cases d1 : b1 < if b = 240 then 144 else 128
                · simp [d1] at h
                · by_cases d2 : b1 > if b = 244 then 143 else 191
                  · simp [d1, d2] at h
                  · simp only [if_neg d1, if_neg d2] at h ⊢
                    cases bs with
                    | nil => simp [uTail] at h
                    | cons b2 bs =>
                      have b2' := hb.tail.tail.head
                      simp only [uTail] at h ⊢
                      by_cases d3 : b2 < 128
                      · simp [d3] at h
                      · by_cases d4 : b2 > 191
                        · simp [d3, d4] at h
                        · simp only [if_neg d3, if_neg d4] at h ⊢
                          cases bs with
                          | nil => simp [uTail] at h
                          | cons b3 bs =>
                            have b3' := hb.tail.tail.tail.head
                            simp only [uTail] at h ⊢
                            by_cases d5 : b3 < 128
                            · simp [d5] at h
                            · by_cases d6 : b3 > 191
                              · simp [d5, d6] at h
                              · simp only [if_neg d5, if_neg d6]
                                have d1' : 128 ≤ b1 ∧ (b = 240 → 144 ≤ b1) := by split at d1 <;> omega
                                have d2' : b1 ≤ 191 ∧ (b = 244 → b1 ≤ 143) := by split at d2 <;> omega
                                clear d1 d2
                                have e1 : 240 + (((b % 8 * 64 + b1 % 64) * 64 + b2 % 64) * 64 + b3 % 64) / 262144 = b := by omega
                                have e2 : 128 + (((b % 8 * 64 + b1 % 64) * 64 + b2 % 64) * 64 + b3 % 64) / 4096 % 64 = b1 := by omega
                                have e3 : 128 + (((b % 8 * 64 + b1 % 64) * 64 + b2 % 64) * 64 + b3 % 64) / 64 % 64 = b2 := by omega
                                have e4 : 128 + (((b % 8 * 64 + b1 % 64) * 64 + b2 % 64) * 64 + b3 % 64) % 64 = b3 := by omega
                                refine ⟨⟨by omega, by omega, by omega⟩, ?_, ?_⟩
                                · unfold uPt; rw [if_neg (by omega), if_neg (by omega), if_neg (by omega), e1, e2, e3, e4]; rfl
                                · unfold uPt; rw [if_neg (by omega), if_neg (by omega), if_neg (by omega)]; rfl
            · simp [uNext, uLead, c1, c2, c3, c4, c5] at h

/-! ## Texts -/
theorem drop_enc (r : Int) (ys : List Int) : (uPt r ++ ys).drop ((uPt r).length : Int).toNat = ys := by simp
theorem decode_enc {r : Int} (h : Scal r) (ys : List Int) : uDec (uPt r ++ ys) = r :: uDec ys := by
  rw [decode_step (by simp [enc_ne]), next_enc_app h]; simp only [drop_enc]
theorem valid_enc {r : Int} (h : Scal r) (ys : List Int) : uValid (uPt r ++ ys) = uValid ys := by
  rw [valid_step (by simp [enc_ne]), next_enc_app h]; simp only [drop_enc, Bool.true_and]
theorem decode_encode (rs ys : List Int) : uDec (uEnc rs ++ ys) = rs.map uFix ++ uDec ys := by
  induction rs with
  | nil => simp [encode_nil]
  | cons r rs ih => rw [encode_cons, List.append_assoc, decode_enc (fix_scal r), ih]; rfl
theorem valid_encode (rs ys : List Int) : uValid (uEnc rs ++ ys) = uValid ys := by
  induction rs with
  | nil => simp [encode_nil]
  | cons r rs ih => rw [encode_cons, List.append_assoc, valid_enc (fix_scal r), ih]
theorem valid_encode' (rs : List Int) : uValid (uEnc rs) = true := by
  have := valid_encode rs []; rwa [List.append_nil, valid_nil] at this
theorem decode_encode' (rs : List Int) : uDec (uEnc rs) = rs.map uFix := by
  have := decode_encode rs []; rwa [List.append_nil, decode_nil, List.append_nil] at this
/-- A text that is UTF-8 is the bytes of its code points, each of which may be. -/
theorem encode_decode : ∀ (n : Nat) (xs : List Int), xs.length ≤ n → Byt xs → uValid xs = true → uEnc (uDec xs) = xs ∧ ∀ r ∈ uDec xs, Scal r
  | 0, xs, h, _, _ => by
    obtain rfl : xs = [] := List.eq_nil_of_length_eq_zero (by omega)
    simp [decode_nil, encode_nil]
  | n + 1, xs, h, hb, hv => by
    by_cases e : xs = []
    · subst e; simp [decode_nil, encode_nil]
    · rw [valid_step e, Bool.and_eq_true] at hv
      have ⟨s, e1, e2⟩ := enc_next hb hv.1
      have hn := next_n xs e
      have ⟨i1, i2⟩ := encode_decode n (xs.drop (uNext xs).2.1.toNat) (by simp only [List.length_drop]; omega) (hb.drop _) hv.2
      rw [decode_step e]
      refine ⟨?_, ?_⟩
      · rw [encode_cons, fix_eq s, i1]; exact e1.symm
      · intro r hr
        rcases List.mem_cons.1 hr with rfl | hr
        · exact s
        · exact i2 r hr
theorem encode_decode' {xs : List Int} (hb : Byt xs) (hv : uValid xs = true) : uEnc (uDec xs) = xs := (encode_decode _ xs (Nat.le_refl _) hb hv).1
theorem decode_scal {xs : List Int} (hb : Byt xs) (hv : uValid xs = true) : ∀ r ∈ uDec xs, Scal r := (encode_decode _ xs (Nat.le_refl _) hb hv).2
/-- One that is not is none's bytes. -/
theorem encode_decode_ne : ∀ (n : Nat) (xs : List Int), xs.length ≤ n → Byt xs → uEnc (uDec xs) = xs → uValid xs = true
  | 0, xs, h, _, _ => by
    obtain rfl : xs = [] := List.eq_nil_of_length_eq_zero (by omega)
    exact valid_nil
  | n + 1, xs, h, hb, he => by
    by_cases e : xs = []
    · subst e; exact valid_nil
    · have hn := next_n xs e
      rw [decode_step e, encode_cons] at he
      cases hok : (uNext xs).2.2 with
      | true =>
        have ⟨s, e1, e2⟩ := enc_next hb hok
        rw [fix_eq s] at he
        have e3 := he.trans e1
        have e4 := List.append_cancel_left e3
        rw [valid_step e, hok, Bool.true_and]
        exact encode_decode_ne n _ (by simp only [List.length_drop]; omega) (hb.drop _) e4
      | false =>
        exfalso
        have hbad := (hn.2.2.2 hok).1
        rw [hbad] at he
        have s : Scal (uFix 65533) := fix_scal _
        have := next_enc_app s (uEnc (uDec (xs.drop (uNext xs).2.1.toNat)))
        rw [he] at this
        rw [this] at hok
        cases hok
theorem valid_iff {xs : List Int} (hb : Byt xs) : uEnc (uDec xs) = xs ↔ uValid xs = true := ⟨encode_decode_ne _ xs (Nat.le_refl _) hb, encode_decode' hb⟩
/-- Two texts, of which the first one is UTF-8. -/
theorem decode_parts {xs : List Int} (hb : Byt xs) (hv : uValid xs = true) (ys : List Int) : uDec (xs ++ ys) = uDec xs ++ uDec ys ∧ uValid (xs ++ ys) = uValid ys := by
  have e := encode_decode' hb hv
  have s := decode_scal hb hv
  have m : (uDec xs).map uFix = uDec xs := by
    conv => rhs; rw [← List.map_id (uDec xs)]
    exact List.map_congr_left fun r hr => by simpa using fix_eq (s r hr)
  constructor
  · conv => lhs; rw [← e]
    rw [decode_encode, m]
  · conv => lhs; rw [← e]
    rw [valid_encode]
theorem encode_len (rs : List Int) : (uEnc rs).length ≤ 4 * rs.length := by
  induction rs with
  | nil => simp [encode_nil]
  | cons r rs ih => have := @enc_len (uFix r); rw [encode_cons]; simp only [List.length_append, List.length_cons]; omega
/-- What is read is a code point that may be, or the one that stands for none. -/
theorem next_scal {xs : List Int} (hb : Byt xs) (h : xs ≠ []) : Scal (uNext xs).1 := by
  cases hok : (uNext xs).2.2 with
  | true => exact (enc_next hb hok).1
  | false => rw [((next_n xs h).2.2.2 hok).1]; exact ⟨by omega, by omega, by omega⟩
theorem decode_all_scal : ∀ (n : Nat) (xs : List Int), xs.length ≤ n → Byt xs → ∀ r ∈ uDec xs, Scal r
  | 0, xs, h, _ => by
    obtain rfl : xs = [] := List.eq_nil_of_length_eq_zero (by omega)
    simp [decode_nil]
  | n + 1, xs, h, hb => by
    by_cases e : xs = []
    · subst e; simp [decode_nil]
    · have hn := next_n xs e
      rw [decode_step e]
      intro r hr
      rcases List.mem_cons.1 hr with rfl | hr
      · exact next_scal hb e
      · exact decode_all_scal n _ (by simp only [List.length_drop]; omega) (hb.drop _) r hr
theorem decode_scals {xs : List Int} (hb : Byt xs) : ∀ r ∈ uDec xs, Scal r := decode_all_scal _ xs (Nat.le_refl _) hb
end Go.Proofs.Ytgabddjdgcembaa.Utf
