/- The orders of texts in plain numbers and lists: which one is less by its units, and by its code points. No condition beyond those named in each theorem. -/
import Derived.Test.YtgabddjdgcembaaUs
import Derived.Test.YtgabddjdgcembaaPOrdx0
import Derived.Test.YtgabddjdgcembaaPOrdx1
import Derived.Test.YtgabddjdgcembaaPOrdx2
import Derived.Test.YtgabddjdgcembaaPOrdx3
import Derived.Test.YtgabddjdgcembaaPOrdx4
import Derived.Test.YtgabddjdgcembaaPOrdx5
import Derived.Test.YtgabddjdgcembaaPOrdx6
import Derived.Test.YtgabddjdgcembaaPOrdx7
import Derived.Lib.Hide
import Derived.Lib.Bytes
import Derived.Lib.ConvBytes
namespace Go.Proofs.Ytgabddjdgcembaa.LinkOrd
open Go Go.RowKit Go.Proofs.Ytgabddjdgcembaa Go.Proofs.Ytgabddjdgcembaa.POrd Go.Proofs.YtgabddjdgcembaaW.PrintWords Go.Proofs.YtgabddjdgcembaaW.PrintLast Go.Proofs.YtgabddjdgcembaaW.PrintMore Go.Proofs.Ytgabddjdgcembaa.Utf Go.Lib
set_option linter.unusedVariables false
set_option linter.unusedSimpArgs false
set_option maxRecDepth 100000
theorem w32 {x : Int} (h0 : -2147483648 ≤ x) (h : x < 2147483648) : wrap32 x = x := by unfold wrap32; omega
theorem w64 {x : Int} (h0 : -9223372036854775808 ≤ x) (h : x < 9223372036854775808) : wrap64 x = x := by unfold wrap64; omega
theorem rd_drop (xs : List Int) (i : Nat) (h : i < xs.length) : xs.drop i = rd xs (i : Int) :: xs.drop (i + 1) := by
  have e : rd xs (i : Int) = xs[i] := by unfold rd; simp [h]
  rw [e]; exact List.drop_eq_getElem_cons h
theorem rd_byt {xs : List Int} (hb : Byt xs) (i : Nat) (h : i < xs.length) : 0 ≤ rd xs (i : Int) ∧ rd xs (i : Int) < 256 := by
  have e : rd xs (i : Int) = xs[i] := by unfold rd; simp [h]
  rw [e]; exact hb _ (List.getElem_mem h)
theorem step6 {r b : Int} (r0 : 0 ≤ r) (r1 : r < 33554432) (b0 : 0 ≤ b ∧ b < 256) : Go.bits .or .i32 (wrap32 (r * 64)) (wrap32 (Go.bits .and .u8 b 63)) = r * 64 + b % 64 := by
  rw [u8_and63 _ b0.1 b0.2, w32 (by omega) (by omega), w32 (by omega) (by omega), i32_or6 _ _ (by omega) (by omega) (by omega) (by omega) (by omega)]

theorem leads_ok (c : Int) (h : 0 ≤ c ∧ c < 256) (k : Nat) (hk : 4 ≤ k) :
    utf_leads.f k c = some (match uLead c with | none => (0, 0, 0, 0, false) | some (m, r, lo, hi) => ((m : Int), r, lo, hi, true)) := by
  obtain ⟨k, rfl⟩ : ∃ m, k = m + 4 := ⟨k - 4, by omega⟩
  have a31 := u8_and31 _ h.1 h.2
  have a15 := u8_and15 _ h.1 h.2
  have a7 := u8_and7 _ h.1 h.2
  have w1 : wrap32 c = c := w32 (by omega) (by omega)
  have w2 : wrap32 (c % 32) = c % 32 := w32 (by omega) (by omega)
  have w3 : wrap32 (c % 16) = c % 16 := w32 (by omega) (by omega)
  have w4 : wrap32 (c % 8) = c % 8 := w32 (by omega) (by omega)
  unfold utf_leads.f uLead
  simp only [utf_leads.j0, utf_leads.j1, utf_leads.j2, a31, a15, a7, w1, w2, w3, w4, decide_eq_true_eq, ge_iff_le]
  by_cases c1 : c < 128
  · simp only [if_pos c1]; rfl
  · by_cases c2 : c < 194
    · simp only [if_neg c1, if_pos c2, if_neg (show ¬ 194 ≤ c by omega), if_neg (show ¬ 224 ≤ c by omega), if_neg (show ¬ 240 ≤ c by omega), Bool.false_eq_true, if_false]
    · by_cases c3 : c < 224
      · simp only [if_neg c1, if_neg c2, if_pos c3, if_pos (show 194 ≤ c by omega), if_pos (show c ≤ 223 by omega)]; rfl
      · by_cases c4 : c < 240
        · simp only [if_neg c1, if_neg c2, if_neg c3, if_pos c4, if_pos (show 194 ≤ c by omega), if_neg (show ¬ c ≤ 223 by omega), if_pos (show 224 ≤ c by omega), if_pos (show c ≤ 239 by omega)]
          by_cases d1 : c = 224
          · subst d1; simp
          · by_cases d2 : c = 237
            · subst d2; simp
            · simp [d1, d2]
        · by_cases c5 : c < 245
          · simp only [if_neg c1, if_neg c2, if_neg c3, if_neg c4, if_pos c5, if_pos (show 194 ≤ c by omega), if_neg (show ¬ c ≤ 223 by omega), if_pos (show 224 ≤ c by omega), if_neg (show ¬ c ≤ 239 by omega), if_pos (show 240 ≤ c by omega), if_pos (show c ≤ 244 by omega)]
            by_cases d1 : c = 240
            · subst d1; simp
            · by_cases d2 : c = 244
              · subst d2; simp
              · simp [d1, d2]
          · simp only [if_neg c1, if_neg c2, if_neg c3, if_neg c4, if_neg c5, if_pos (show 194 ≤ c by omega), if_neg (show ¬ c ≤ 223 by omega), if_pos (show 224 ≤ c by omega), if_neg (show ¬ c ≤ 239 by omega), if_pos (show 240 ≤ c by omega), if_neg (show ¬ c ≤ 244 by omega)]

theorem lead_b {c : Int} (h : 0 ≤ c ∧ c < 256) {m : Nat} {r lo hi : Int} (e : uLead c = some (m, r, lo, hi)) : m ≤ 3 ∧ 0 ≤ r ∧ (r + 1) * 64 ^ m ≤ 2147483648 := by
  unfold uLead at e
  repeat' split at e
  all_goals simp at e
  all_goals obtain ⟨rfl, rfl, rfl, rfl⟩ := e
  all_goals (refine ⟨by omega, by omega, by omega⟩)

theorem next_l0 (xs : List Int) (hb : Byt xs) (hl : xs.length ≤ 140737488351232) : ∀ (n : Nat) (k i : Nat) (r lo hi m bits : Int), 0 ≤ r → (r + 1) * 64 ^ n ≤ 2147483648 → 1 ≤ i → m + 1 = (i : Int) + n → m ≤ 3 → n < k →
    utf_Next.l0 k xs r i m bits lo hi = some (uTail n r lo hi i (xs.drop i))
  | 0, k, i, r, lo, hi, m, bits, _, _, h1, hm, hm3, hk => by
    obtain ⟨k, rfl⟩ : ∃ q, k = q + 1 := ⟨k - 1, by omega⟩
    simp only [utf_Next.l0, uTail]
    rw [if_neg (by omega), w64 (by omega) (by omega), show (1 : Int) + m = i by omega]
  | n + 1, k, i, r, lo, hi, m, bits, h0, hr, h1, hm, hm3, hk => by
    obtain ⟨k, rfl⟩ : ∃ q, k = q + 1 := ⟨k - 1, by omega⟩
    simp only [utf_Next.l0]
    rw [if_pos (by omega)]
    by_cases c : i < xs.length
    · have hrd := rd_byt hb i c
      have hpp : (1 : Int) ≤ 64 ^ n := by have hp : 1 ≤ 64 ^ n := Nat.one_le_pow n 64 (by omega); exact_mod_cast hp
      have hr' : (r + 1) * 64 * 64 ^ n ≤ 2147483648 := by rw [Int.mul_assoc, ← Int.pow_succ']; exact hr
      have hrb : (r + 1) * 64 ≤ 2147483648 := Int.le_trans (by have := Int.mul_le_mul_of_nonneg_left hpp (show (0 : Int) ≤ (r + 1) * 64 by omega); omega) hr'
      rw [if_neg (by omega), if_pos (by omega), if_pos (by omega), rd_drop xs i c]
      simp only [uTail]
      by_cases d1 : rd xs (i : Int) < lo
      · rw [if_pos d1, if_pos d1]
      · rw [if_neg d1, if_neg d1]
        by_cases d2 : rd xs (i : Int) > hi
        · rw [if_pos d2, if_pos d2]
        · rw [if_neg d2, if_neg d2, step6 h0 (by omega) hrd, w64 (by omega) (by omega)]
          have := next_l0 xs hb hl n k (i + 1) (r * 64 + rd xs (i : Int) % 64) 128 191 m bits (by omega) (Int.le_trans (Int.mul_le_mul_of_nonneg_right (by omega) (by omega)) hr') (by omega) (by omega) hm3 (by omega)
          rw [Int.natCast_add] at this
          exact this
    · rw [if_pos (by omega), List.drop_eq_nil_of_le (by omega)]
      rfl

theorem next_ok (xs : List Int) (hb : Byt xs) (hl : xs.length ≤ 140737488351232) (k : Nat) (hk : 8 ≤ k) : utf_Next.f k xs = some (uNext xs) := by
  unfold utf_Next.f
  cases xs with
  | nil => rfl
  | cons b bs =>
    rw [if_neg (by simp only [List.length_cons]; omega), if_pos (by simp only [List.length_cons]; omega)]
    have e : rd (b :: bs) 0 = b := rfl
    rw [e, leads_ok b hb.head k (by omega)]
    simp only [Option.bind_some, uNext]
    cases hl' : uLead b with
    | none => rfl
    | some x =>
      obtain ⟨m, r, lo, hi⟩ := x
      have := lead_b hb.head hl'
      simp only [if_true]
      exact next_l0 (b :: bs) hb hl m k 1 r lo hi m r this.2.1 this.2.2 (by omega) (by omega) (by omega) (by omega)


theorem decode_l0 : ∀ (n : Nat) (xs acc : List Int) (k : Nat), xs.length ≤ n → Byt xs → acc.length + xs.length ≤ 1000000000 → n + 9 ≤ k → utf_Decode.l0 k xs acc = some (acc ++ uDec xs)
  | n, xs, acc, k, hn, hb, hl, hk => by
    obtain ⟨k, rfl⟩ : ∃ q, k = q + 1 := ⟨k - 1, by omega⟩
    simp only [utf_Decode.l0]
    by_cases e : xs = []
    · subst e; rw [decode_nil]; simp
    · have hp := List.length_pos_iff.2 e
      have h4 := next_n xs e
      rw [if_pos (by omega), next_ok xs hb (by omega) k (by omega), decode_step e]
      simp only [Option.bind_some]
      rw [if_pos (by omega), if_pos (by omega), if_pos (by omega)]
      cases n with
      | zero => omega
      | succ n =>
        rw [decode_l0 n _ _ k (by simp only [List.length_drop]; omega) (hb.drop _) (by simp only [List.length_drop, List.length_append, List.length_cons, List.length_nil]; omega) (by omega)]
        simp
theorem decode_ok (xs : List Int) (hb : Byt xs) (hl : xs.length ≤ 1000000000) (k : Nat) (hk : xs.length + 9 ≤ k) : utf_Decode.f k xs = some (uDec xs) := by
  have := decode_l0 xs.length xs [] k (Nat.le_refl _) hb (by simp; omega) hk
  simpa [utf_Decode.f] using this

/-- A string's bytes, as numbers. -/
abbrev bs (s : ByteArray) : List Int := Go.Proofs.YtgabddjdgcembaaW.PrintWords.bytesOf s
theorem bs_len (s : ByteArray) : (bs s).length = s.size :=
  Go.Proofs.YtgabddjdgcembaaW.PrintWords.bytesOf_length s
theorem bs_byt (s : ByteArray) : Byt (bs s) := by
  intro x hx
  simp only [bs, Go.Proofs.YtgabddjdgcembaaW.PrintWords.bytesOf, List.mem_map] at hx
  obtain ⟨c, -, rfl⟩ := hx
  have := c.toNat_lt
  omega
theorem bs_C (w : World) (s : ByteArray) (hs : s.size ≤ 140737488351232) : (Kd.int .u8).C (bytesWorld w 5 s) (some ⟨w.heap.size, 0, none⟩) (bs s).length (bs s) := by
  rw [bs_len]
  exact Kd.C_of_reads (d := (0 : Int)) (h1 := fun _ => rfl) (bytes_reads w 5 s (by omega))
theorem bs_below (w : World) (s : ByteArray) : Below w.heap.size w (bytesWorld w 5 s) := bytes_below (Below.refl _ _) (Nat.le_refl _) _ _
theorem bs_dec (s : ByteArray) : (uDec (bs s)).length ≤ s.size := by have := decode_len _ (bs s) (Nat.le_refl _); rw [bs_len] at this; exact this

theorem strOf_append (xs ys : List Int) : strOfNums (xs ++ ys) = strOfNums xs ++ strOfNums ys := by
  apply ByteArray.ext
  simp [strOfNums]
theorem bs_append (s t : ByteArray) : bs (s ++ t) = bs s ++ bs t := by simp [bs, Go.Proofs.YtgabddjdgcembaaW.PrintWords.bytesOf]
theorem strOf_size (xs : List Int) : (strOfNums xs).size = xs.length := by simp [strOfNums, ByteArray.size]

/-- Which number is less. -/
def cmpI (a b : Int) : Int := if a < b then -1 else if a > b then 1 else 0
theorem cmpI_self (a : Int) : cmpI a a = 0 := by unfold cmpI; rw [if_neg (by omega), if_neg (by omega)]
theorem cmpI_zero {a b : Int} (h : cmpI a b = 0) : a = b := by
  unfold cmpI at h
  split at h
  · cases h
  · split at h
    · cases h
    · omega
theorem cmpI_neg (a b : Int) : cmpI b a = -cmpI a b := by
  unfold cmpI
  split <;> (try split) <;> (try split) <;> (try split) <;> omega
theorem cmpI_range (a b : Int) : -1 ≤ cmpI a b ∧ cmpI a b ≤ 1 := by
  unfold cmpI
  split
  · omega
  · split <;> omega
/-- Which list of numbers is less: by the first ones that differ; a beginning is less. -/
def lexP : List Int → List Int → Int
  | [], [] => 0
  | [], _ :: _ => -1
  | _ :: _, [] => 1
  | x :: xs, y :: ys => if cmpI x y = 0 then lexP xs ys else cmpI x y
theorem lexP_self : ∀ (p : List Int), lexP p p = 0
  | [] => rfl
  | x :: p => by rw [lexP, if_pos (cmpI_self x)]; exact lexP_self p
theorem lexP_app : ∀ (p a b : List Int), lexP (p ++ a) (p ++ b) = lexP a b
  | [], _, _ => rfl
  | x :: p, a, b => by
    rw [List.cons_append, List.cons_append, lexP, if_pos (cmpI_self x)]
    exact lexP_app p a b
theorem lexP_ne (p a b : List Int) {x y : Int} (h : x ≠ y) : lexP (p ++ x :: a) (p ++ y :: b) = cmpI x y := by
  rw [lexP_app, lexP, if_neg (fun e => h (cmpI_zero e))]
theorem lexP_lead (p : List Int) {b : List Int} (h : b ≠ []) : lexP p (p ++ b) = -1 := by
  have := lexP_app p [] b
  rw [List.append_nil] at this
  rw [this]
  cases b with
  | nil => exact absurd rfl h
  | cons y b => rfl
theorem lexP_neg : ∀ (a b : List Int), lexP b a = -lexP a b
  | [], [] => rfl
  | [], _ :: _ => rfl
  | _ :: _, [] => rfl
  | x :: a, y :: b => by
    rw [lexP, lexP, cmpI_neg x y]
    by_cases c : cmpI x y = 0
    · rw [if_pos c, if_pos (by omega)]; exact lexP_neg a b
    · rw [if_neg c, if_neg (by omega)]
theorem lexP_zero : ∀ (a b : List Int), lexP a b = 0 → a = b
  | [], [], _ => rfl
  | [], _ :: _, h => by cases h
  | _ :: _, [], h => by cases h
  | x :: a, y :: b, h => by
    rw [lexP] at h
    by_cases c : cmpI x y = 0
    · rw [if_pos c] at h
      rw [cmpI_zero c, lexP_zero a b h]
    · rw [if_neg c] at h; exact absurd h c
theorem lexP_range : ∀ (a b : List Int), -1 ≤ lexP a b ∧ lexP a b ≤ 1
  | [], [] => by simp [lexP]
  | [], _ :: _ => by simp [lexP]
  | _ :: _, [] => by simp [lexP]
  | x :: a, y :: b => by
    rw [lexP]
    split
    · exact lexP_range a b
    · exact cmpI_range x y
theorem lexP_trans : ∀ (a b c : List Int), lexP a b ≤ 0 → lexP b c ≤ 0 → lexP a c ≤ 0
  | [], _, [], _, _ => by simp [lexP]
  | [], _, _ :: _, _, _ => by simp [lexP]
  | _ :: _, [], _, h, _ => by simp [lexP] at h
  | _ :: _, _ :: _, [], _, h => by simp [lexP] at h
  | x :: a, y :: b, z :: c, h1, h2 => by
    rw [lexP] at h1 h2 ⊢
    by_cases c1 : cmpI x y = 0
    · rw [if_pos c1] at h1
      rw [cmpI_zero c1]
      by_cases c2 : cmpI y z = 0
      · rw [if_pos c2] at h2 ⊢
        exact lexP_trans a b c h1 h2
      · rw [if_neg c2] at h2 ⊢
        exact h2
    · rw [if_neg c1] at h1
      have hxy : x < y := by unfold cmpI at h1 c1; split at h1 <;> (try split at h1) <;> (try split at c1) <;> (try split at c1) <;> omega
      by_cases c2 : cmpI y z = 0
      · have e := cmpI_zero c2
        subst e
        rw [if_neg c1]; exact h1
      · rw [if_neg c2] at h2
        have hyz : y < z := by unfold cmpI at h2 c2; split at h2 <;> (try split at h2) <;> (try split at c2) <;> (try split at c2) <;> omega
        have e : cmpI x z = -1 := by unfold cmpI; rw [if_pos (by omega)]
        rw [e]; simp
/-- What a code point counts for. -/
def wt (r : Int) : Int := if r ≥ 65536 then 3623878656 + r else if r ≥ 55296 then r * 4294967296 else r * 65536
/-- A code point as numbers of 16 bits. -/
def un (r : Int) : List Int := if 65535 < r then [55296 + (r - 65536) / 1024, 56320 + (r - 65536) % 1024] else [r]
def uns (rs : List Int) : List Int := rs.flatMap un
theorem wt_inj {x y : Int} (hx : Scal x) (hy : Scal y) (h : wt x = wt y) : x = y := by
  unfold Scal at hx hy
  unfold wt at h
  split at h <;> (try split at h) <;> (try split at h) <;> (try split at h) <;> omega
set_option maxHeartbeats 2000000 in
theorem wt_cmp {x y : Int} (hx : Scal x) (hy : Scal y) (hxy : x ≠ y) (A B : List Int) : lexP (un x ++ A) (un y ++ B) = cmpI (wt x) (wt y) := by
  unfold Scal at hx hy
  unfold un
  by_cases cx : 65535 < x
  · by_cases cy : 65535 < y
    · rw [if_pos cx, if_pos cy]
      by_cases e : (x - 65536) / 1024 = (y - 65536) / 1024
      · have := lexP_ne [55296 + (x - 65536) / 1024] A B (x := 56320 + (x - 65536) % 1024) (y := 56320 + (y - 65536) % 1024) (by omega)
        rw [← e]
        refine this.trans ?_
        unfold cmpI wt
        split <;> (try split) <;> (try split) <;> (try split) <;> (try split) <;> (try split) <;> omega
      · have := lexP_ne [] ((56320 + (x - 65536) % 1024) :: A) ((56320 + (y - 65536) % 1024) :: B) (x := 55296 + (x - 65536) / 1024) (y := 55296 + (y - 65536) / 1024) (by omega)
        refine this.trans ?_
        unfold cmpI wt
        split <;> (try split) <;> (try split) <;> (try split) <;> (try split) <;> (try split) <;> omega
    · rw [if_pos cx, if_neg cy]
      have := lexP_ne [] ((56320 + (x - 65536) % 1024) :: A) B (x := 55296 + (x - 65536) / 1024) (y := y) (by omega)
      refine this.trans ?_
      unfold cmpI wt
      split <;> (try split) <;> (try split) <;> (try split) <;> (try split) <;> (try split) <;> omega
  · by_cases cy : 65535 < y
    · rw [if_neg cx, if_pos cy]
      have := lexP_ne [] A ((56320 + (y - 65536) % 1024) :: B) (x := x) (y := 55296 + (y - 65536) / 1024) (by omega)
      refine this.trans ?_
      unfold cmpI wt
      split <;> (try split) <;> (try split) <;> (try split) <;> (try split) <;> (try split) <;> omega
    · rw [if_neg cx, if_neg cy]
      have := lexP_ne [] A B (x := x) (y := y) hxy
      refine this.trans ?_
      unfold cmpI wt
      split <;> (try split) <;> (try split) <;> (try split) <;> (try split) <;> (try split) <;> omega
theorem un_cons (r : Int) : ∃ u t, un r = u :: t := by unfold un; split <;> exact ⟨_, _, rfl⟩
theorem lexW_units : ∀ (xs ys : List Int), (∀ r ∈ xs, Scal r) → (∀ r ∈ ys, Scal r) → lexP (xs.map wt) (ys.map wt) = lexP (uns xs) (uns ys)
  | [], [], _, _ => rfl
  | [], y :: ys, _, _ => by
    obtain ⟨u, t, e⟩ := un_cons y
    show -1 = lexP [] (un y ++ uns ys)
    rw [e]; rfl
  | x :: xs, [], _, _ => by
    obtain ⟨u, t, e⟩ := un_cons x
    show 1 = lexP (un x ++ uns xs) []
    rw [e]; rfl
  | x :: xs, y :: ys, hx, hy => by
    have ih := lexW_units xs ys (fun r hr => hx r (List.mem_cons_of_mem _ hr)) (fun r hr => hy r (List.mem_cons_of_mem _ hr))
    show lexP (wt x :: xs.map wt) (wt y :: ys.map wt) = lexP (un x ++ uns xs) (un y ++ uns ys)
    by_cases e : x = y
    · subst e
      rw [lexP_app, lexP, if_pos (cmpI_self _)]
      exact ih
    · rw [wt_cmp (hx x (List.mem_cons_self ..)) (hy y (List.mem_cons_self ..)) e]
      have := lexP_ne [] (xs.map wt) (ys.map wt) (x := wt x) (y := wt y) (fun h => e (wt_inj (hx x (List.mem_cons_self ..)) (hy y (List.mem_cons_self ..)) h))
      exact this

theorem or16h : ∀ y : Int, 0 ≤ y → y < 1024 → Go.bits .or .u16 55296 y = 55296 + y := by
  intro y h0 h1
  obtain ⟨n, rfl⟩ : ∃ n : Nat, y = n := ⟨y.toNat, by omega⟩
  have hn : n < 1024 := by omega
  clear h0 h1
  revert n
  decide +kernel
theorem or16l : ∀ y : Int, 0 ≤ y → y < 1024 → Go.bits .or .u16 56320 y = 56320 + y := by
  intro y h0 h1
  obtain ⟨n, rfl⟩ : ∃ n : Nat, y = n := ⟨y.toNat, by omega⟩
  have hn : n < 1024 := by omega
  clear h0 h1
  revert n
  decide +kernel
theorem i32_and1023 (y : Int) (h₀ : 0 ≤ y) (h₁ : y < 2147483648) : Go.bits .and .i32 y 1023 = y % 1024 :=
  bits_mask .i32 31 (by decide) wraps_i32 10 (by decide) y h₀ (by omega)
theorem u16w {x : Int} (h0 : 0 ≤ x) (h1 : x < 65536) : IntKind.u16.wrap x = x := by simp only [IntKind.wrap, IntKind.bits, IntKind.signed]; simp; omega
theorem scal_b {r : Int} (h : Scal r) : 0 ≤ r ∧ r < 1114112 := by unfold Scal at h; omega
theorem rd_mem {xs : List Int} {i : Nat} (h : i < xs.length) : rd xs (i : Int) ∈ xs := by unfold rd; simp [h]
theorem drop_uns (xs : List Int) (i : Nat) (h : i < xs.length) : uns (xs.drop i) = un (rd xs (i : Int)) ++ uns (xs.drop (i + 1)) := by rw [rd_drop xs i h]; rfl
theorem units_l0 (xs : List Int) (hs : ∀ r ∈ xs, Scal r) (hl : xs.length ≤ 1000000) : ∀ (n i : Nat) (acc : List Int) (k : Nat), xs.length = i + n → acc.length ≤ 2 * i → n < k →
    order_Units.l0 k acc xs (xs.length : Int) (i : Int) = some (acc ++ uns (xs.drop i))
  | n, i, acc, k, hn, ha, hk => by
    obtain ⟨k, rfl⟩ : ∃ q, k = q + 1 := ⟨k - 1, by omega⟩
    simp only [order_Units.l0]
    by_cases c : i < xs.length
    · obtain ⟨n, rfl⟩ : ∃ q, n = q + 1 := ⟨n - 1, by omega⟩
      have hr := scal_b (hs _ (rd_mem c))
      rw [if_pos (by omega), if_pos (by omega), if_pos (by omega), drop_uns xs i c]
      generalize rd xs (i : Int) = r at hr
      by_cases c1 : r < 65536
      · rw [if_pos c1, if_pos (by omega), u16w hr.1 c1, w64 (by omega) (by omega)]
        have := units_l0 xs hs hl n (i + 1) (acc ++ [r]) k (by omega) (by simp; omega) (by omega)
        rw [show (i : Int) + 1 = ((i + 1 : Nat) : Int) by omega, this]
        unfold un; rw [if_neg (by omega), List.append_assoc]
      · rw [if_neg c1, Option.bind_some, w32 (by omega) (by omega), i32_and1023 _ (by omega) (by omega), u16w (by omega) (by omega), u16w (by omega) (by omega), or16h _ (by omega) (by omega), or16l _ (by omega) (by omega), if_pos (by simp; omega), w64 (by omega) (by omega)]
        have := units_l0 xs hs hl n (i + 1) (acc ++ [55296 + (r - 65536) / 1024, 56320 + (r - 65536) % 1024]) k (by omega) (by simp; omega) (by omega)
        rw [show (i : Int) + 1 = ((i + 1 : Nat) : Int) by omega, this]
        unfold un; rw [if_pos (by omega), List.append_assoc]
    · rw [if_neg (by omega), List.drop_eq_nil_of_le (by omega)]
      simp [uns]
theorem units_f (s : ByteArray) (hs : s.size ≤ 1000000) (k : Nat) (hk : s.size + 20 ≤ k) : order_Units.f k s = some (uns (uDec (bs s))) := by
  have hb := bs_byt s
  have hl := bs_len s
  have hd := bs_dec s
  unfold order_Units.f
  rw [if_pos (by omega), decode_ok _ hb (by omega) k (by omega), Option.bind_some]
  have := units_l0 (uDec (bs s)) (decode_scals hb) (by omega) (uDec (bs s)).length 0 [] k (by omega) (by simp) (by omega)
  rw [show ((0 : Nat) : Int) = 0 from rfl] at this
  rw [this]; simp
theorem weight_f {r : Int} (h : 0 ≤ r ∧ r < 1114112) : order_weight.f r = some (wt r) := by
  unfold order_weight.f wt
  rw [w64 (x := r) (by omega) (by omega)]
  by_cases c1 : r ≥ 65536
  · rw [if_pos c1, if_pos c1, w64 (by omega) (by omega)]
  · rw [if_neg c1, if_neg c1]
    by_cases c2 : r ≥ 55296
    · rw [if_pos c2, if_pos c2, w64 (by omega) (by omega)]
    · rw [if_neg c2, if_neg c2, w64 (by omega) (by omega)]
theorem cmp64_f (a b : Int) : cmp_Compare_int64.f a b = some (cmpI a b) := by
  unfold cmp_Compare_int64.f cmp_isNaN_int64.f cmpI
  simp only [bne_self_eq_false, Option.bind_some, Bool.false_eq_true, if_false]
  split
  · rfl
  · split <;> rfl
theorem cmp32_f (a b : Int) : cmp_Compare_rune.f a b = some (cmpI a b) := by
  unfold cmp_Compare_rune.f cmp_isNaN_rune.f cmpI
  simp only [bne_self_eq_false, Option.bind_some, Bool.false_eq_true, if_false]
  split
  · rfl
  · split <;> rfl
theorem cmpf_l0 (xs ys : List Int) (hx : ∀ r ∈ xs, Scal r) (hy : ∀ r ∈ ys, Scal r) (hl : xs.length ≤ 1000000) : ∀ (n i k : Nat), xs.length = i + n → i ≤ ys.length → n < k →
    slices_CompareFunc_rune_rune_rune_rune.l0 k xs ys xs (xs.length : Int) (i : Int) = some (lexP ((xs.drop i).map wt) ((ys.drop i).map wt))
  | n, i, k, hn, hi, hk => by
    obtain ⟨k, rfl⟩ : ∃ q, k = q + 1 := ⟨k - 1, by omega⟩
    simp only [slices_CompareFunc_rune_rune_rune_rune.l0]
    by_cases c : i < xs.length
    · obtain ⟨n, rfl⟩ : ∃ q, n = q + 1 := ⟨n - 1, by omega⟩
      rw [if_pos (by omega), if_pos (by omega), if_pos (by omega), rd_drop xs i c, List.map_cons]
      by_cases c2 : i < ys.length
      · rw [if_neg (by omega), if_pos (by omega), rd_drop ys i c2, List.map_cons, lexP]
        have h1 := scal_b (hx _ (rd_mem c))
        have h2 := scal_b (hy _ (rd_mem c2))
        simp only [order_Compare_1.f]
        rw [weight_f h1, Option.bind_some, weight_f h2, Option.bind_some, cmp64_f, Option.bind_some, Option.bind_some]
        by_cases c3 : cmpI (wt (rd xs (i : Int))) (wt (rd ys (i : Int))) = 0
        · rw [if_pos c3, if_pos c3, w64 (by omega) (by omega)]
          exact cmpf_l0 xs ys hx hy hl n (i + 1) k (by omega) (by omega) (by omega)
        · rw [if_neg c3, if_neg c3]
      · rw [if_pos (by omega), List.drop_eq_nil_of_le (by omega : ys.length ≤ i)]
        rfl
    · rw [if_neg (by omega), List.drop_eq_nil_of_le (by omega : xs.length ≤ i)]
      by_cases c2 : i < ys.length
      · rw [if_pos (by omega), rd_drop ys i c2]; rfl
      · rw [if_neg (by omega), List.drop_eq_nil_of_le (by omega : ys.length ≤ i)]; rfl
theorem cmpp_l0 (xs ys : List Int) (hl : xs.length ≤ 1000000) : ∀ (n i k : Nat), xs.length = i + n → i ≤ ys.length → n < k →
    slices_Compare_rune_rune.l0 k xs ys xs (xs.length : Int) (i : Int) = some (lexP (xs.drop i) (ys.drop i))
  | n, i, k, hn, hi, hk => by
    obtain ⟨k, rfl⟩ : ∃ q, k = q + 1 := ⟨k - 1, by omega⟩
    simp only [slices_Compare_rune_rune.l0]
    by_cases c : i < xs.length
    · obtain ⟨n, rfl⟩ : ∃ q, n = q + 1 := ⟨n - 1, by omega⟩
      rw [if_pos (by omega), if_pos (by omega), if_pos (by omega), rd_drop xs i c]
      by_cases c2 : i < ys.length
      · rw [if_neg (by omega), if_pos (by omega), rd_drop ys i c2, lexP, cmp32_f, Option.bind_some]
        by_cases c3 : cmpI (rd xs (i : Int)) (rd ys (i : Int)) = 0
        · rw [if_pos c3, if_pos c3, w64 (by omega) (by omega)]
          exact cmpp_l0 xs ys hl n (i + 1) k (by omega) (by omega) (by omega)
        · rw [if_neg c3, if_neg c3]
      · rw [if_pos (by omega), List.drop_eq_nil_of_le (by omega : ys.length ≤ i)]
        rfl
    · rw [if_neg (by omega), List.drop_eq_nil_of_le (by omega : xs.length ≤ i)]
      by_cases c2 : i < ys.length
      · rw [if_pos (by omega), rd_drop ys i c2]; rfl
      · rw [if_neg (by omega), List.drop_eq_nil_of_le (by omega : ys.length ≤ i)]; rfl
/-- Which text is less by its units; by its code points. -/
def cmpT (a b : ByteArray) : Int := lexP (uns (uDec (bs a))) (uns (uDec (bs b)))
def ptsT (a b : ByteArray) : Int := lexP (uDec (bs a)) (uDec (bs b))
theorem cmpT_w (a b : ByteArray) : cmpT a b = lexP ((uDec (bs a)).map wt) ((uDec (bs b)).map wt) := (lexW_units _ _ (decode_scals (bs_byt a)) (decode_scals (bs_byt b))).symm
theorem compare_f (a b : ByteArray) (ha : a.size ≤ 100000) (hb : b.size ≤ 100000) (k : Nat) (hk : a.size + b.size + 20 ≤ k) : order_Compare.f k a b = some (cmpT a b) := by
  have h1 := bs_len a
  have h2 := bs_len b
  have h3 := bs_dec a
  have h4 := bs_dec b
  unfold order_Compare.f
  rw [if_pos (by omega), decode_ok _ (bs_byt a) (by omega) k (by omega), Option.bind_some, if_pos (by omega), decode_ok _ (bs_byt b) (by omega) k (by omega), Option.bind_some]
  have := cmpf_l0 (uDec (bs a)) (uDec (bs b)) (decode_scals (bs_byt a)) (decode_scals (bs_byt b)) (by omega) (uDec (bs a)).length 0 k (by omega) (by omega) (by omega)
  unfold slices_CompareFunc_rune_rune_rune_rune.f
  rw [show ((0 : Nat) : Int) = 0 from rfl] at this
  rw [this, cmpT_w]; rfl
theorem points_f (a b : ByteArray) (ha : a.size ≤ 100000) (hb : b.size ≤ 100000) (k : Nat) (hk : a.size + b.size + 20 ≤ k) : order_Points.f k a b = some (ptsT a b) := by
  have h1 := bs_len a
  have h2 := bs_len b
  have h3 := bs_dec a
  have h4 := bs_dec b
  unfold order_Points.f
  rw [if_pos (by omega), decode_ok _ (bs_byt a) (by omega) k (by omega), Option.bind_some, if_pos (by omega), decode_ok _ (bs_byt b) (by omega) k (by omega), Option.bind_some]
  have := cmpp_l0 (uDec (bs a)) (uDec (bs b)) (by omega) (uDec (bs a)).length 0 k (by omega) (by omega) (by omega)
  unfold slices_Compare_rune_rune.f
  rw [show ((0 : Nat) : Int) = 0 from rfl] at this
  rw [this]; rfl
theorem scal_F0 {r : Int} (h : Scal r) : 0 ≤ r := by unfold Scal at h; omega
def totL (ss : List ByteArray) : Nat := (ss.map fun s => s.size + 1).sum
theorem long_l0 (ss : List ByteArray) (hl : ss.length ≤ 1000000) : ∀ (n i : Nat) (m : Int) (k : Nat), ss.length = i + n → n < k → 0 ≤ m → m ≤ 1000000 →
    ∃ r, gossamerlaw0_Long.l0 k m ss (i : Int) = some r ∧ (r = false → (totL (ss.drop i) : Int) ≤ m)
  | n, i, m, k, hn, hk, h0, h1 => by
    obtain ⟨k, rfl⟩ : ∃ q, k = q + 1 := ⟨k - 1, by omega⟩
    simp only [gossamerlaw0_Long.l0]
    by_cases c : i < ss.length
    · obtain ⟨n, rfl⟩ : ∃ q, n = q + 1 := ⟨n - 1, by omega⟩
      have hd : ss.drop i = rdOf ByteArray.empty ss (i : Int) :: ss.drop (i + 1) := by
        rw [List.drop_eq_getElem_cons c]; unfold rdOf; simp [c]
      rw [if_pos (by omega), if_pos (by omega), hd]
      generalize rdOf ByteArray.empty ss (i : Int) = s
      have ht : totL (s :: ss.drop (i + 1)) = s.size + 1 + totL (ss.drop (i + 1)) := by simp [totL]
      by_cases c2 : (s.size : Int) ≥ m
      · exact ⟨true, by rw [if_pos c2], by simp⟩
      · rw [if_neg c2, w64 (x := m - (s.size : Int)) (by omega) (by omega), w64 (x := m - (s.size : Int) - 1) (by omega) (by omega), w64 (x := (i : Int) + 1) (by omega) (by omega)]
        obtain ⟨r, hr, hf⟩ := long_l0 ss hl n (i + 1) (m - (s.size : Int) - 1) k (by omega) (by omega) (by omega) (by omega)
        refine ⟨r, hr, fun e => ?_⟩
        have := hf e
        rw [ht]; omega
    · rw [if_neg (by omega), List.drop_eq_nil_of_le (by omega)]
      exact ⟨false, rfl, fun _ => by simp [totL]; omega⟩
theorem long_f (n : Int) (ss : List ByteArray) (hl : ss.length ≤ 1000000) (h0 : 0 ≤ n) (h1 : n ≤ 1000000) (k : Nat) (hk : ss.length < k) : ∃ r, gossamerlaw0_Long.f k n ss = some r ∧ (r = false → (totL ss : Int) ≤ n) :=
  long_l0 ss hl ss.length 0 n k (by omega) hk h0 h1

end Go.Proofs.Ytgabddjdgcembaa.LinkOrd
