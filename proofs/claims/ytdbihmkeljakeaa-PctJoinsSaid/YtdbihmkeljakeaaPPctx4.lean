/- Go functions come to Lean functions of the same names: walks, written by a program of the session (wip/pp.py). No condition beyond those named in each theorem. -/
import Derived.Test.YtdbihmkeljakeaaPPctx0
import Derived.Test.YtdbihmkeljakeaaPPctx1
import Derived.Test.YtdbihmkeljakeaaPPctx2
import Derived.Test.YtdbihmkeljakeaaPPctx3
namespace Go.Proofs.Ytdbihmkeljakeaa.PPct
open Go.RowKit Go.Proofs.YtdbihmkeljakeaaW.PrintWords Go.Proofs.YtdbihmkeljakeaaW.PrintLast Go.Proofs.YtdbihmkeljakeaaW.PrintMore
attribute [local go_sem] max2_int min2_int max_two min_two max_three min_three max_four min_four   -- for this text's walks alone
set_option linter.unusedVariables false
set_option linter.unusedSimpArgs false

/-! ### pct_Encode: function 14 -/
section
set_option maxRecDepth 100000
open Go Go.Lib Go.Proofs.Ytdbihmkeljakeaa.Utf
theorem w32 {x : Int} (h0 : -2147483648 ≤ x) (h : x < 2147483648) : wrap32 x = x := by unfold wrap32; omega
theorem w64 {x : Int} (h0 : -9223372036854775808 ≤ x) (h : x < 9223372036854775808) : wrap64 x = x := by unfold wrap64; omega
theorem rd_drop (xs : List Int) (i : Nat) (h : i < xs.length) : xs.drop i = rd xs (i : Int) :: xs.drop (i + 1) := by
  have e : rd xs (i : Int) = xs[i] := by unfold rd; simp [h]
  rw [e]; exact List.drop_eq_getElem_cons h
theorem rd_byt {xs : List Int} (hb : Byt xs) (i : Nat) (h : i < xs.length) : 0 ≤ rd xs (i : Int) ∧ rd xs (i : Int) < 256 := by
  have e : rd xs (i : Int) = xs[i] := by unfold rd; simp [h]
  rw [e]; exact hb _ (List.getElem_mem h)
theorem step6 {r b : Int} (r0 : 0 ≤ r) (r1 : r < 33554432) (b0 : 0 ≤ b ∧ b < 256) : Go.bits .or .i32 (wrap32 (r * 64)) (wrap32 (Go.bits .and .u8 b 63)) = r * 64 + b % 64 := by
  rw [u8_and63 _ b0.1 b0.2, w32 (by omega) (by omega), w32 (by omega) (by omega), i32_or6 _ _ (by omega) (by omega) (by omega) (by omega) (by omega)]

theorem leads_ok (c : Int) (h : 0 ≤ c ∧ c < 256) (k : Nat) (hk : 4 ≤ k) :
    utf_leads.f k c = some (match uLead c with | none => (0, 0, 0, 0, false) | some (m, r, lo, hi) => ((m : Int), r, lo, hi, true)) := by
  obtain ⟨k, rfl⟩ : ∃ m, k = m + 4 := ⟨k - 4, by omega⟩
  have a31 := u8_and31 _ h.1 h.2
  have a15 := u8_and15 _ h.1 h.2
  have a7 := u8_and7 _ h.1 h.2
  have w1 : wrap32 c = c := w32 (by omega) (by omega)
  have w2 : wrap32 (c % 32) = c % 32 := w32 (by omega) (by omega)
  have w3 : wrap32 (c % 16) = c % 16 := w32 (by omega) (by omega)
  have w4 : wrap32 (c % 8) = c % 8 := w32 (by omega) (by omega)
  unfold utf_leads.f uLead
  simp only [utf_leads.j0, utf_leads.j1, utf_leads.j2, a31, a15, a7, w1, w2, w3, w4, decide_eq_true_eq, ge_iff_le]
  by_cases c1 : c < 128
  · simp only [if_pos c1]; rfl
  · by_cases c2 : c < 194
    · simp only [if_neg c1, if_pos c2, if_neg (show ¬ 194 ≤ c by omega), if_neg (show ¬ 224 ≤ c by omega), if_neg (show ¬ 240 ≤ c by omega), Bool.false_eq_true, if_false]
    · by_cases c3 : c < 224
      · simp only [if_neg c1, if_neg c2, if_pos c3, if_pos (show 194 ≤ c by omega), if_pos (show c ≤ 223 by omega)]; rfl
      · by_cases c4 : c < 240
        · simp only [if_neg c1, if_neg c2, if_neg c3, if_pos c4, if_pos (show 194 ≤ c by omega), if_neg (show ¬ c ≤ 223 by omega), if_pos (show 224 ≤ c by omega), if_pos (show c ≤ 239 by omega)]
          by_cases d1 : c = 224
          · subst d1; simp
          · by_cases d2 : c = 237
            · subst d2; simp
            · simp [d1, d2]
        · by_cases c5 : c < 245
          · simp only [if_neg c1, if_neg c2, if_neg c3, if_neg c4, if_pos c5, if_pos (show 194 ≤ c by omega), if_neg (show ¬ c ≤ 223 by omega), if_pos (show 224 ≤ c by omega), if_neg (show ¬ c ≤ 239 by omega), if_pos (show 240 ≤ c by omega), if_pos (show c ≤ 244 by omega)]
            by_cases d1 : c = 240
            · subst d1; simp
            · by_cases d2 : c = 244
              · subst d2; simp
              · simp [d1, d2]
          · simp only [if_neg c1, if_neg c2, if_neg c3, if_neg c4, if_neg c5, if_pos (show 194 ≤ c by omega), if_neg (show ¬ c ≤ 223 by omega), if_pos (show 224 ≤ c by omega), if_neg (show ¬ c ≤ 239 by omega), if_pos (show 240 ≤ c by omega), if_neg (show ¬ c ≤ 244 by omega)]

theorem lead_b {c : Int} (h : 0 ≤ c ∧ c < 256) {m : Nat} {r lo hi : Int} (e : uLead c = some (m, r, lo, hi)) : m ≤ 3 ∧ 0 ≤ r ∧ (r + 1) * 64 ^ m ≤ 2147483648 := by
  unfold uLead at e
  repeat' split at e
  all_goals simp at e
  all_goals obtain ⟨rfl, rfl, rfl, rfl⟩ := e
  all_goals (refine ⟨by omega, by omega, by omega⟩)

theorem next_l0 (xs : List Int) (hb : Byt xs) (hl : xs.length ≤ 140737488351232) : ∀ (n : Nat) (k i : Nat) (r lo hi m bits : Int), 0 ≤ r → (r + 1) * 64 ^ n ≤ 2147483648 → 1 ≤ i → m + 1 = (i : Int) + n → m ≤ 3 → n < k →
    utf_Next.l0 k xs r i m bits lo hi = some (uTail n r lo hi i (xs.drop i))
  | 0, k, i, r, lo, hi, m, bits, _, _, h1, hm, hm3, hk => by
    obtain ⟨k, rfl⟩ : ∃ q, k = q + 1 := ⟨k - 1, by omega⟩
    simp only [utf_Next.l0, uTail]
    rw [if_neg (by omega), w64 (by omega) (by omega), show (1 : Int) + m = i by omega]
  | n + 1, k, i, r, lo, hi, m, bits, h0, hr, h1, hm, hm3, hk => by
    obtain ⟨k, rfl⟩ : ∃ q, k = q + 1 := ⟨k - 1, by omega⟩
    simp only [utf_Next.l0]
    rw [if_pos (by omega)]
    by_cases c : i < xs.length
    · have hrd := rd_byt hb i c
      have hpp : (1 : Int) ≤ 64 ^ n := by have hp : 1 ≤ 64 ^ n := Nat.one_le_pow n 64 (by omega); exact_mod_cast hp
      have hr' : (r + 1) * 64 * 64 ^ n ≤ 2147483648 := by rw [Int.mul_assoc, ← Int.pow_succ']; exact hr
      have hrb : (r + 1) * 64 ≤ 2147483648 := Int.le_trans (by have := Int.mul_le_mul_of_nonneg_left hpp (show (0 : Int) ≤ (r + 1) * 64 by omega); omega) hr'
      rw [if_neg (by omega), if_pos (by omega), if_pos (by omega), rd_drop xs i c]
      simp only [uTail]
      by_cases d1 : rd xs (i : Int) < lo
      · rw [if_pos d1, if_pos d1]
      · rw [if_neg d1, if_neg d1]
        by_cases d2 : rd xs (i : Int) > hi
        · rw [if_pos d2, if_pos d2]
        · rw [if_neg d2, if_neg d2, step6 h0 (by omega) hrd, w64 (by omega) (by omega)]
          have := next_l0 xs hb hl n k (i + 1) (r * 64 + rd xs (i : Int) % 64) 128 191 m bits (by omega) (Int.le_trans (Int.mul_le_mul_of_nonneg_right (by omega) (by omega)) hr') (by omega) (by omega) hm3 (by omega)
          rw [Int.natCast_add] at this
          exact this
    · rw [if_pos (by omega), List.drop_eq_nil_of_le (by omega)]
      rfl

theorem next_ok (xs : List Int) (hb : Byt xs) (hl : xs.length ≤ 140737488351232) (k : Nat) (hk : 8 ≤ k) : utf_Next.f k xs = some (uNext xs) := by
  unfold utf_Next.f
  cases xs with
  | nil => rfl
  | cons b bs =>
    rw [if_neg (by simp only [List.length_cons]; omega), if_pos (by simp only [List.length_cons]; omega)]
    have e : rd (b :: bs) 0 = b := rfl
    rw [e, leads_ok b hb.head k (by omega)]
    simp only [Option.bind_some, uNext]
    cases hl' : uLead b with
    | none => rfl
    | some x =>
      obtain ⟨m, r, lo, hi⟩ := x
      have := lead_b hb.head hl'
      simp only [if_true]
      exact next_l0 (b :: bs) hb hl m k 1 r lo hi m r this.2.1 this.2.2 (by omega) (by omega) (by omega) (by omega)


theorem decode_l0 : ∀ (n : Nat) (xs acc : List Int) (k : Nat), xs.length ≤ n → Byt xs → acc.length + xs.length ≤ 1000000000 → n + 9 ≤ k → utf_Decode.l0 k xs acc = some (acc ++ uDec xs)
  | n, xs, acc, k, hn, hb, hl, hk => by
    obtain ⟨k, rfl⟩ : ∃ q, k = q + 1 := ⟨k - 1, by omega⟩
    simp only [utf_Decode.l0]
    by_cases e : xs = []
    · subst e; rw [decode_nil]; simp
    · have hp := List.length_pos_iff.2 e
      have h4 := next_n xs e
      rw [if_pos (by omega), next_ok xs hb (by omega) k (by omega), decode_step e]
      simp only [Option.bind_some]
      rw [if_pos (by omega), if_pos (by omega), if_pos (by omega)]
      cases n with
      | zero => omega
      | succ n =>
        rw [decode_l0 n _ _ k (by simp only [List.length_drop]; omega) (hb.drop _) (by simp only [List.length_drop, List.length_append, List.length_cons, List.length_nil]; omega) (by omega)]
        simp
theorem decode_ok (xs : List Int) (hb : Byt xs) (hl : xs.length ≤ 1000000000) (k : Nat) (hk : xs.length + 9 ≤ k) : utf_Decode.f k xs = some (uDec xs) := by
  have := decode_l0 xs.length xs [] k (Nat.le_refl _) hb (by simp; omega) hk
  simpa [utf_Decode.f] using this

theorem more_ok (r : Int) (h : 0 ≤ r ∧ r < 2147483648) : utf_more.f r = some (128 + r % 64) := by
  unfold utf_more.f
  have e : Go.bits .and .i32 r 63 = r % 64 := bits_mask .i32 31 (by decide) wraps_i32 6 (by decide) r h.1 (by omega)
  rw [e, show r % 64 % 256 = r % 64 by omega, u8_or128 _ (by omega) (by omega)]
theorem add_ok (out : List Int) (r : Int) (hr : -2147483648 ≤ r ∧ r < 2147483648) (hl : out.length ≤ 140737488351232) (k : Nat) (hk : 3 ≤ k) : utf_add.f k out r = some (out ++ uPt (uFix r)) := by
  obtain ⟨k, rfl⟩ : ∃ m, k = m + 3 := ⟨k - 3, by omega⟩
  have main : ∀ (r : Int) (k : Nat), Scal r → utf_add.j1 (k + 1) out r = some (out ++ uPt r) := by
    intro r k ⟨h0, h1, _⟩
    simp only [utf_add.j1]
    unfold uPt
    by_cases c1 : r < 128
    · rw [if_pos c1, if_pos c1, if_pos (by omega), show r % 256 = r by omega]
    · rw [if_neg c1, if_neg c1]
      by_cases c2 : r < 2048
      · rw [if_pos c2, if_pos c2, more_ok r (by omega), show r / 64 % 256 = r / 64 by omega, u8_or192 _ (by omega) (by omega)]
        simp only [Option.bind_some, List.length_cons, List.length_nil]
        rw [if_pos (by omega)]
      · rw [if_neg c2, if_neg c2]
        by_cases c3 : r < 65536
        · rw [if_pos c3, if_pos c3, more_ok r (by omega), more_ok _ (by omega), show r / 4096 % 256 = r / 4096 by omega, u8_or224 _ (by omega) (by omega)]
          simp only [Option.bind_some, List.length_cons, List.length_nil]
          rw [if_pos (by omega)]
        · rw [if_neg c3, if_neg c3, more_ok r (by omega), more_ok _ (by omega), more_ok _ (by omega), show r / 262144 % 256 = r / 262144 by omega, u8_or240 _ (by omega) (by omega)]
          simp only [Option.bind_some, List.length_cons, List.length_nil]
          rw [if_pos (by omega)]
  have m1 := main 65533 k ⟨by omega, by omega, by omega⟩
  have m2 := main 65533 (k + 1) ⟨by omega, by omega, by omega⟩
  unfold utf_add.f uFix
  simp only [utf_add.j0]
  by_cases c1 : r < 0
  · rw [if_pos c1, if_pos c1, if_pos trivial, main _ _ ⟨by omega, by omega, by omega⟩]
  · rw [if_neg c1, if_neg c1]
    by_cases c2 : r > 1114111
    · rw [if_pos c2, if_pos c2, if_pos trivial, main _ _ ⟨by omega, by omega, by omega⟩]
    · rw [if_neg c2, if_neg c2]
      by_cases c3 : r ≥ 55296
      · rw [if_pos c3]
        by_cases c4 : r ≤ 57343
        · rw [if_pos (by simpa using c4), if_pos ⟨c3, c4⟩, main _ _ ⟨by omega, by omega, by omega⟩]
        · rw [if_neg (by simpa using c4), if_neg (by omega), main _ _ ⟨by omega, by omega, by omega⟩]
      · rw [if_neg c3, if_neg (by simp), if_neg (by omega), main _ _ ⟨by omega, by omega, by omega⟩]

/-- Each number is one of 32 bits. -/
def R32 (xs : List Int) : Prop := ∀ x ∈ xs, -2147483648 ≤ x ∧ x < 2147483648
theorem R32.of_wf {xs : List Int} (h : ∀ x ∈ xs, (Lit.int .i32 x).wf = true) : R32 xs := fun x hx => by
  have := h x hx
  have h8 : IntKind.i32.min = -2147483648 := by decide
  have h9 : IntKind.i32.max = 2147483647 := by decide
  simp [Lit.wf] at this
  omega
theorem R32.scal {xs : List Int} (h : ∀ x ∈ xs, Scal x) : R32 xs := fun x hx => by have := h x hx; unfold Scal at this; omega
theorem encode_l0 (rs : List Int) (hb : R32 rs) (hl : rs.length ≤ 1000000000) : ∀ (n : Nat) (i : Nat) (acc : List Int) (k : Nat), rs.length = i + n → acc.length ≤ 4 * i → n + 4 ≤ k → utf_Encode.l0 k acc rs rs.length i = some (acc ++ uEnc (rs.drop i))
  | 0, i, acc, k, hn, ha, hk => by
    obtain ⟨k, rfl⟩ : ∃ q, k = q + 1 := ⟨k - 1, by omega⟩
    simp only [utf_Encode.l0]
    rw [if_neg (by omega), List.drop_eq_nil_of_le (by omega), encode_nil, List.append_nil]
  | n + 1, i, acc, k, hn, ha, hk => by
    obtain ⟨k, rfl⟩ : ∃ q, k = q + 1 := ⟨k - 1, by omega⟩
    simp only [utf_Encode.l0]
    have hc : i < rs.length := by omega
    have e : rd rs (i : Int) = rs[i] := by unfold rd; simp [hc]
    have hm : -2147483648 ≤ rd rs (i : Int) ∧ rd rs (i : Int) < 2147483648 := by rw [e]; exact hb _ (List.getElem_mem hc)
    have h4 := @enc_len (uFix (rd rs (i : Int)))
    rw [if_pos (by omega), if_pos (by omega), if_pos (by omega), add_ok acc _ hm (by omega) k (by omega)]
    simp only [Option.bind_some]
    rw [w64 (by omega) (by omega)]
    have := encode_l0 rs hb hl n (i + 1) (acc ++ uPt (uFix (rd rs (i : Int)))) k (by omega) (by simp only [List.length_append]; omega) (by omega)
    rw [Int.natCast_add] at this
    refine this.trans ?_
    rw [rd_drop rs i hc, encode_cons, List.append_assoc]
theorem encode_ok (rs : List Int) (hb : R32 rs) (hl : rs.length ≤ 1000000000) (k : Nat) (hk : rs.length + 4 ≤ k) : utf_Encode.f k rs = some (uEnc rs) := by
  have := encode_l0 rs hb hl rs.length 0 [] k (by omega) (by simp) hk
  simpa [utf_Encode.f] using this
theorem decode_r32 {xs : List Int} (hb : Byt xs) : R32 (uDec xs) := R32.scal (decode_scals hb)

/-! ## What the calls come to, by the plain definitions -/
theorem next_c (A : Option Addr) (c : Nat) (xs : List Int) (w : World) (hC : Kd.C (Kd.int .u8) w A xs.length xs) (hc : xs.length ≤ c) (hb : Byt xs) (hl : xs.length ≤ 1000000) :
    Calls Try.prog 34 #[.slice A xs.length c] w fun e w' => e = .returned (.tuple #[.int .i32 (uNext xs).1, .int .i64 (uNext xs).2.1, .bool (uNext xs).2.2]) ∧ Below w.heap.size w w' :=
  utf_Next.calls 8 A c xs _ _ _ w hC hc (next_ok xs hb (by omega) 8 (by omega))

theorem decode_c (A : Option Addr) (c : Nat) (xs : List Int) (w : World) (hC : Kd.C (Kd.int .u8) w A xs.length xs) (hc : xs.length ≤ c) (hb : Byt xs) (hl : xs.length ≤ 1000000) :
    Calls Try.prog 25 #[.slice A xs.length c] w fun e w' => ∃ v, e = .returned v ∧ Kd.R (Kd.int .i32) 21 w' w.heap.size (fun k => w.heap.size ≤ k) v (uDec xs) ∧ Below w.heap.size w w' :=
  utf_Decode.calls (xs.length + 9) (fun k => k < w.heap.size) A c xs _ w (Kd.V_mk hc (Kd.C_F (Kd.heap_int .u8) hC)) (decode_ok xs hb (by omega) _ (by omega))

theorem encode_c (A : Option Addr) (c : Nat) (rs : List Int) (w : World) (hC : Kd.C (Kd.int .i32) w A rs.length rs) (hc : rs.length ≤ c) (hb : R32 rs) (hl : rs.length ≤ 1000000) :
    Calls Try.prog 26 #[.slice A rs.length c] w fun e w' => ∃ v, e = .returned v ∧ Kd.R (Kd.int .u8) 5 w' w.heap.size (fun _ => True) v (uEnc rs) ∧ Below w.heap.size w w' :=
  utf_Encode.calls (rs.length + 4) A c rs _ w hC hc (encode_ok rs hb (by omega) _ (by omega))

theorem byt_of {xs : List Int} (h : (xs.all fun x => decide (0 ≤ x) && decide (x < 256)) = true) : Byt xs := fun x hx => by
  have := List.all_eq_true.1 h x hx
  simpa using this
/-- A row just made, marked or not, is read as it was told. -/
theorem C_new (k : IntKind) (W : World) (e : TypeId) (m : Nat × Nat) (xs : List Int) (hm : xs.length ≤ 1000000) : (Kd.int k).C (W.alloc (.cells (xs.map (Value.int k)).toArray e m)) (some ⟨W.heap.size, 0, none⟩) xs.length xs := by
  refine Kd.C_of_reads (d := (0 : Int)) (h1 := fun _ => rfl) ⟨rfl, by omega, fun _ => ⟨_, rfl, fun j hj => ?_⟩⟩
  have hb := blk_new W (.cells (xs.map (Value.int k)).toArray e m)
  have := cell_of_row _ _ j _ _ _ hb
  have e2 : (⟨W.heap.size, 0, none⟩ : Addr).add j = ⟨W.heap.size, j, none⟩ := by cases j <;> simp [Addr.add]
  rw [e2, this]
  simp [hj]

theorem bt_drop (s : ByteArray) (i : Nat) (h : i < s.size) : (bs s).drop i = bt s (i : Int) :: (bs s).drop (i + 1) := by
  rw [rd_drop (bs s) i (by rw [bs_len]; exact h), rd_bytesOf]
theorem bt_byt (s : ByteArray) (i : Int) : 0 ≤ bt s i ∧ bt s i < 256 := by
  unfold bt
  split
  · have := (s[i.toNat]).toNat_lt; omega
  · omega

/-- A builder that the call has made, whose row is none of the blocks of q. -/
def Bq (q : Nat → Prop) (B b : Nat) (bs : List Value) (w : World) : Prop :=
  B ≤ b ∧ ∃ p v, (p = .pointer none ∨ p = .pointer (some ⟨b, 0, none⟩)) ∧ w.heap[b]? = some (.cells #[p, v] 47 (0, 0)) ∧ w.ownsRow B 5 1 v bs.length bs ∧ some b ≠ v.ownBlock ∧ ∀ k, q k → v.ownBlock ≠ some k
theorem Bq.is {q : Nat → Prop} {B b : Nat} {bs : List Value} {w : World} (h : Bq q B b bs w) : Lib.IsBuilder 47 5 B b bs w := by
  obtain ⟨hB, p, v, hp | hp, h1, h2, h3, _⟩ := h
  · subst hp; exact .inl ⟨hB, v, h1, h2, fun e => h3 e.symm⟩
  · subst hp; exact .inr ⟨hB, v, h1, h2, fun e => h3 e.symm⟩
theorem Bq.lt {q : Nat → Prop} {B b : Nat} {bs : List Value} {w : World} (h : Bq q B b bs w) : b < w.heap.size := by
  obtain ⟨hB, p, v, hp, h1, _⟩ := h
  exact blk_lt h1
theorem Bq.sub {q q' : Nat → Prop} {B b : Nat} {bs : List Value} {w : World} (h : Bq q B b bs w) (hq : ∀ k, q' k → q k) : Bq q' B b bs w := by
  obtain ⟨hB, p, v, hp, h1, h2, h3, h4⟩ := h
  exact ⟨hB, p, v, hp, h1, h2, h3, fun k hk => h4 k (hq k hk)⟩
theorem Bq.more {q : Nat → Prop} {B b : Nat} {bs : List Value} {w w' : World} (h : Bq q B b bs w) (hb : Below w.heap.size w w') : Bq (fun k => q k ∨ w.heap.size ≤ k) B b bs w' := by
  obtain ⟨hB, p, v, hp, h1, h2, h3, h4⟩ := h
  have hlt : b < w.heap.size := blk_lt h1
  refine ⟨hB, p, v, hp, (hb.block b hlt).trans h1, own_move h2 (fun k hk => hb.block k (own_lt h2 k hk)), h3, ?_⟩
  rintro k (hk | hk)
  · exact h4 k hk
  · intro e
    have := own_lt h2 k e
    omega
theorem Bq.below {q : Nat → Prop} {B b : Nat} {bs : List Value} {w w' : World} (h : Bq q B b bs w) (hb : Below w.heap.size w w') : Bq q B b bs w' := h.more hb |>.sub fun _ hk => .inl hk
theorem Bq.fresh (q : Nat → Prop) (w : World) (B : Nat) (hB : B ≤ w.heap.size) : Bq q B w.heap.size [] (w.alloc (.cells #[.pointer none, .slice none 0 0] 47)) :=
  ⟨hB, _, _, .inl rfl, heap_alloc_new _ _, own_nil _ _ _ _, by simp [Value.ownBlock], fun _ _ => by simp [Value.ownBlock]⟩
theorem copycheck_q (q : Nat → Prop) (B b : Nat) (bs : List Value) (w : World) (h : Bq q B b bs w) (hq : ¬ q b) :
    Calls Try.prog 36 #[.pointer (some ⟨b, 0, none⟩)] w fun e w' => e = .returned (.tuple #[]) ∧ (∃ v, w'.heap[b]? = some (.cells #[.pointer (some ⟨b, 0, none⟩), v] 47 (0, 0)) ∧ w'.ownsRow B 5 1 v bs.length bs ∧ some b ≠ v.ownBlock ∧ (∀ k, q k → v.ownBlock ≠ some k)) ∧ Below B w w' ∧ Kept w w' (fun k => ¬ q k) := by
  obtain ⟨hB, p, v, hp, h1, h2, h3, h4⟩ := h
  rcases hp with rfl | rfl
  · have hA : Lib.BuilderAt 47 5 B b (.pointer none) bs w := ⟨hB, v, h1, h2, fun e => h3 e.symm⟩
    refine (Any.Builder_copyCheck_fresh Try.lays240 Try.Builder_X72_240 b w hA.cell0 hA.shape hA.frozen0).mono ?_
    rintro e w' ⟨rfl, rfl⟩
    refine ⟨rfl, ⟨v, ?_, own_setCell h2 (p := ⟨b, 0, none⟩) h3 _, h3, h4⟩, (Below.refl B w).setCell (p := ⟨b, 0, none⟩) hB _, (Kept.refl w _).setCell (p := ⟨b, 0, none⟩) (.inl hq) _⟩
    simp [World.setCell, Array.getElem?_modify, h1, Try.lays240_ren]
  · have hA : Lib.BuilderAt 47 5 B b (.pointer (some ⟨b, 0, none⟩)) bs w := ⟨hB, v, h1, h2, fun e => h3 e.symm⟩
    refine (Any.Builder_copyCheck_used Try.lays240 Try.Builder_X72_240 b w hA.cell0).mono ?_
    rintro e w' ⟨rfl, rfl⟩
    exact ⟨rfl, ⟨v, h1, h2, h3, h4⟩, Below.refl B _, Kept.refl _ _⟩
set_option maxHeartbeats 2000000 in
theorem writebyte_q (q : Nat → Prop) (B b : Nat) (bs : List Value) (c : Int) (w : World) (h : Bq q B b bs w) (hq : ∀ k, q k → k ≠ b ∧ k < w.heap.size) (hlen : bs.length + 1 ≤ 1000000000) (hBw : B ≤ w.heap.size) :
    Calls Try.prog 27 #[.pointer (some ⟨b, 0, none⟩), .int .u8 c] w fun e w' => e = .returned .nilIface ∧ Bq q B b (bs ++ [.int .u8 c]) w' ∧ Below B w w' ∧ Kept w w' (fun k => ¬ q k) := by
  have hqb : ¬ q b := fun hk => (hq b hk).1 rfl
  have hB := h.1
  go_enter Try.func27, Try.ntmps27
  go_wp2_with fail
  refine (copycheck_q q B b bs _ h hqb).mono ?_
  rintro e w1 ⟨rfl, ⟨v, hbk, hown, hne, hnq⟩, hb1, hk1⟩
  have c0 : w1.cell? ⟨b, 0, none⟩ = some (.pointer (some ⟨b, 0, none⟩)) := by rw [Lib.cell_of_heap hbk]; rfl
  have c1 : w1.cell? ⟨b, 1, none⟩ = some v := by rw [Lib.cell_of_heap hbk]; rfl
  have hlt : b < w1.heap.size := blk_lt hbk
  have hsz := hb1.size
  go_wp2_with (at_builtin; go_loud (refine print_append_cells (w0 := w) B rfl _ _ 27 5 (.int .u8 0) 1 1 rfl Try.underlying27 info5 rfl (by decide) (by decide) v bs.length bs [.int .u8 c] rfl rfl rfl (fun u hu => by simp at hu; subst hu; rfl) hown hb1 (by omega) (by omega) ?_))
  intro v' w2 hown' hb2 hgrow hat
  have hb2' : w2.heap[b]? = some (.cells #[.pointer (some ⟨b, 0, none⟩), v] 47 (0, 0)) := by
    rw [hgrow.block b hlt hne]
    exact hbk
  have d0 : w2.cell? ⟨b, 0, none⟩ = some (.pointer (some ⟨b, 0, none⟩)) := by rw [Lib.cell_of_heap hb2']; rfl
  have d1 : w2.cell? ⟨b, 1, none⟩ = some v := by rw [Lib.cell_of_heap hb2']; rfl
  have f1 : w2.frozen? ⟨b, 1, none⟩ = false := Lib.frozen_of_heap hb2' 1
  have hk2 : Kept w w2 (fun k => ¬ q k) := Kept.of_grown hgrow hk1 (fun k hk => .inl fun hqk => hnq k hqk hk)
  have hnq' : ∀ k, q k → v'.ownBlock ≠ some k := by
    intro k hk e
    rcases hat with h' | ⟨g, h', hg⟩
    · rw [h'] at e; exact hnq k hk e
    · rw [h'] at e; injection e with e; have := (hq k hk).2; omega
  have hne' : some b ≠ v'.ownBlock := by
    rcases hat with h' | ⟨g, h', hg⟩
    · rw [h']; exact hne
    · rw [h']; intro e; injection e with e; omega
  obtain ⟨A, cap, rfl⟩ := own_slice hown'
  go_wp2
  go_ret
  refine ⟨rfl, ⟨hB, _, _, .inr rfl, ?_, ?_, hne', hnq'⟩, hb2.setCell (p := ⟨b, 1, none⟩) hB _, hk2.setCell (p := ⟨b, 1, none⟩) (.inl hqb) _⟩
  · simp [World.setCell, Array.getElem?_modify, hb2']
  · simpa using own_setCell hown' (p := ⟨b, 1, none⟩) hne' _

/-- The hex digits. -/
abbrev HX : ByteArray := ⟨#[48, 49, 50, 51, 52, 53, 54, 55, 56, 57, 65, 66, 67, 68, 69, 70]⟩
def hexE (c : Int) : List Int := [37, bt HX (c / 16), bt HX (c % 16)]
/-- What one number is told as. -/
def ph (set r : Int) : List Int := if pin set r = true then (uEnc [r]).flatMap hexE else uEnc [r]
/-- Numbers told by a set. -/
def pe (set : Int) (rs : List Int) : List Int := rs.flatMap (ph set)
theorem u8_and15 (x : Int) (h0 : 0 ≤ x) (h1 : x < 256) : Go.bits .and .u8 x 15 = x % 16 := by
  obtain ⟨n, rfl⟩ : ∃ n : Nat, x = n := ⟨x.toNat, by omega⟩
  have : n < 256 := by omega
  clear h0 h1
  revert n
  decide
theorem enc1_len (r : Int) : (uEnc [r]).length ≤ 4 := by
  rw [encode_cons, encode_nil, List.append_nil]; exact enc_len.2
theorem hexE_byt {c : Int} : Byt (hexE c) := by
  unfold hexE
  intro x hx
  simp only [List.mem_cons, List.not_mem_nil, or_false] at hx
  obtain rfl | rfl | rfl := hx
  · omega
  · exact ⟨(bt_byt _ _).1, (bt_byt _ _).2⟩
  · exact ⟨(bt_byt _ _).1, (bt_byt _ _).2⟩
theorem flat_len {α β : Type} (f : α → List β) (m : Nat) : ∀ (xs : List α), (∀ x ∈ xs, (f x).length ≤ m) → (xs.flatMap f).length ≤ m * xs.length
  | [], _ => by simp
  | x :: xs, h => by
    rw [List.flatMap_cons, List.length_append, List.length_cons]
    have h1 := h x (List.mem_cons_self ..)
    have h2 := flat_len f m xs (fun y hy => h y (List.mem_cons_of_mem _ hy))
    have : m * (xs.length + 1) = m * xs.length + m := by rw [Nat.mul_succ]
    omega
theorem ph_len (set r : Int) : (ph set r).length ≤ 12 := by
  unfold ph
  have h4 := enc1_len r
  split
  · have := flat_len hexE 3 (uEnc [r]) (fun x _ => by simp [hexE])
    omega
  · omega
theorem ph_byt (set r : Int) : Byt (ph set r) := by
  unfold ph
  split
  · intro x hx
    obtain ⟨c, -, hc⟩ := List.mem_flatMap.1 hx
    exact hexE_byt x hc
  · exact encode_byt _
theorem pe_byt (set : Int) (rs : List Int) : Byt (pe set rs) := fun x hx => by
  obtain ⟨c, -, hc⟩ := List.mem_flatMap.1 hx
  exact ph_byt set c x hc
theorem pe_len (set : Int) (rs : List Int) : (pe set rs).length ≤ 12 * rs.length := flat_len _ _ _ (fun x _ => ph_len set x)
theorem pe_take (set : Int) (rs : List Int) (k : Nat) (h : k < rs.length) : pe set (rs.take (k + 1)) = pe set (rs.take k) ++ ph set (rd rs (k : Int)) := by
  unfold pe
  rw [List.take_succ_eq_append_getElem h, List.flatMap_append, List.flatMap_cons, List.flatMap_nil, List.append_nil]
  congr 2
  simp [rd, h]
theorem flat_take {f : Int → List Int} (rs : List Int) (k : Nat) (h : k < rs.length) : (rs.take (k + 1)).flatMap f = (rs.take k).flatMap f ++ f (rd rs (k : Int)) := by
  rw [List.take_succ_eq_append_getElem h, List.flatMap_append, List.flatMap_cons, List.flatMap_nil, List.append_nil]
  congr 2
  simp [rd, h]
theorem nums_cells (xs : List Int) (h : Byt xs) : xs.map (Value.int .u8) = Lib.byteCells (xs.map fun n => UInt8.ofNat n.toNat) := by
  unfold Lib.byteCells
  rw [List.map_map]
  refine List.map_congr_left fun x hx => ?_
  have := h x hx
  simp only [Function.comp, UInt8.toNat_ofNat']
  congr 1
  omega

theorem ptake_snoc (xs : List Int) (k : Nat) (h : k < xs.length) : xs.take (k + 1) = xs.take k ++ [rd xs (k : Int)] := by
  rw [List.take_succ_eq_append_getElem h]
  simp [rd, h]
set_option maxHeartbeats 4000000 in
theorem pencode_c (s : ByteArray) (set : Int) (w : World) (hs : s.size ≤ 1000000) :
    Calls Try.prog 14 #[.string s, .int .i64 set] w fun e w' => e = .returned (.string (strOfNums (pe set (uDec (bs s))))) ∧ Below w.heap.size w w' := by
  have kc := fun (w : World) (s : ByteArray) => print_bytes (P := Try.prog) 9 27 5 Try.underlying9 Try.underlying27 Try.underlying5 s w
  have ld := decode_len _ (bs s) (Nat.le_refl _)
  have hbb := bs_byt s
  have hl := bs_len s
  rw [hl] at ld
  have h32 := decode_r32 hbb
  generalize hds : uDec (bs s) = ds at ld h32 ⊢
  have hds := Lib.hid hds
  have hB0 := Bq.fresh (fun _ => False) w w.heap.size (Nat.le_refl _)
  have hsz0 : (w.alloc (.cells #[.pointer none, .slice none 0 0] 47)).heap.size = w.heap.size + 1 := by simp
  have hC := bs_C (w.alloc (.cells #[.pointer none, .slice none 0 0] 47)) s (by omega)
  have hBw := bs_below (w.alloc (.cells #[.pointer none, .slice none 0 0] 47)) s
  have hBa : Below w.heap.size w (w.alloc (.cells #[.pointer none, .slice none 0 0] 47)) := below_alloc (Below.refl _ _) _
  rw [hsz0] at hC
  have hsz0 := Lib.hid hsz0
  go_enter Try.func14, Try.ntmps14
  go_wp2_with fail
  have k1 := decode_c _ (grownCap (w.alloc (.cells #[.pointer none, .slice none 0 0] 47)) s.size 0 5) (bs s) _ hC (by rw [hl]; exact grownCap_ge _ _ _ _) hbb (by omega)
  rw [hl, hds.out] at k1
  refine k1.mono ?_
  clear k1
  rintro e w1 ⟨v1, rfl, ho1, hb1'⟩
  have hb1 := below_step hBw hb1'
  have hBt := Aside0.mk (below_step hBa hb1)
  have hq0 := (hB0.more hb1).sub (q' := fun k => w.heap.size + 1 ≤ k ∧ k < w1.heap.size) (fun k hk => .inr (by rw [hsz0.out]; exact hk.1))
  have hls : w.heap.size + 1 ≤ w1.heap.size := by have := hb1.size; rw [hsz0.out] at this; exact this
  obtain ⟨A1, c1, rfl, hl1, -⟩ := Kd.R_reads ho1
  have hf0 := Kd.F_mono (Kd.R_F (Kd.R_bound ho1)) (ok' := fun k => w.heap.size + 1 ≤ k ∧ k < w1.heap.size) (fun k hk => ⟨by have := hk.2.1; have h2 := hBw.size; rw [hsz0.out] at h2; omega, hk.2.2.1⟩)
  have hq0 := Aside0.mk hq0
  have hf0 := Aside0.mk hf0
  clear ho1 hb1' hC hBw hB0 hb1 hbb hl kc hBa hsz0
  generalize hn1 : w1.heap.size = n1 at hq0 hf0 hls
  have hn1 := Lib.hid hn1
  have hls := Lib.hid hls
  go_wp2_with fail
  go_loopw [15] (fun i w' => ∃ k : Nat, k ≤ ds.length ∧ i = .int .i64 k ∧ Aside0 (Bq (fun k => w.heap.size + 1 ≤ k ∧ k < n1) w.heap.size w.heap.size ((pe set (ds.take k)).map (Value.int .u8)) w') ∧ Aside0 (Kd.F (Kd.int .i32) w' (fun k => w.heap.size + 1 ≤ k ∧ k < n1) A1 ds.length ds) ∧ Aside0 (Below w.heap.size w w') ∧ Aside0 (n1 ≤ w'.heap.size)) (fun i _ => ds.length - (RowKit.intOf i).toNat)
  case atStart => exact ⟨0, Nat.zero_le _, rfl, hq0, hf0, hBt, ⟨by rw [hn1.out]; exact Nat.le_refl _⟩⟩
  case round =>
    clear hq0 hf0 hBt
    obtain ⟨w', hw'⟩ : ∃ x, x = wr := ⟨_, rfl⟩
    subst hw'
    obtain ⟨k, hk, rfl, hq, hf, hb, hsz⟩ := hrel
    by_cases hlt : k < ds.length
    · have hsn := pe_take set ds k hlt
      have hln := pe_len set (ds.take k)
      rw [List.length_take, Nat.min_eq_left hk] at hln
      obtain ⟨ad, hA, hcell⟩ := Kd.at_int (Kd.F_now hf.out) (k : Int) (by omega) (by omega)
      rw [Int.toNat_natCast] at hcell
      cases hA
      have hr32 : -2147483648 ≤ rd ds (k : Int) ∧ rd ds (k : Int) < 2147483648 := h32 _ (by unfold rd; simp [hlt])
      generalize rd ds (k : Int) = r at *
      generalize pe set (ds.take k) = acc at *
      have hsn := Lib.hid hsn
      have dlt : decide ((k : Int) < (ds.length : Int)) = true := decide_eq_true (by omega)
      go_wp2_with fail
      refine (in_c set r w' hr32.1 hr32.2).mono ?_
      rintro e w2 ⟨rfl, hb2⟩
      go_wp2_with fail
      have k2 := encode_c (some ⟨w2.heap.size, 0, none⟩) 1 [r] _ (C_new .i32 w2 21 (0, 0) [r] (by simp)) (by simp) (fun x hx => by simp only [List.mem_singleton] at hx; subst hx; exact hr32) (by simp)
      refine k2.mono ?_
      clear k2
      rintro e w3 ⟨v3, rfl, ho3, hb3⟩
      obtain ⟨A3, c3, rfl, hl3, -⟩ := Kd.R_reads ho3
      have hb23 := below_step hb2 (below_step (below_alloc (Below.refl w2.heap.size w2) _) hb3)
      have hsz3 := hb23.size
      have hbs := (below_alloc (Below.refl w2.heap.size w2) (.cells ([r].map (Value.int .i32)).toArray 21 (0, 0))).size
      have hsz2 := hb2.size
      have hq3 := (hq.out.more hb23).sub (q' := fun k => (w.heap.size + 1 ≤ k ∧ k < n1) ∨ (w'.heap.size ≤ k ∧ k < w3.heap.size)) (fun k hk => hk.elim .inl (fun h => .inr h.1))
      have hf3 := Kd.F_below hf.out hb23
      have hg3 := Kd.F_mono (Kd.R_F (Kd.R_bound ho3)) (ok' := fun k => (w.heap.size + 1 ≤ k ∧ k < n1) ∨ (w'.heap.size ≤ k ∧ k < w3.heap.size)) (fun k hk => .inr ⟨by have := hk.2.1; omega, hk.2.2.1⟩)
      have hbt3 := Aside0.mk (below_step hb.out hb23)
      have hl4 := enc1_len r
      have hcb := encode_byt [r]
      have hph : ph set r = if pin set r = true then (uEnc [r]).flatMap hexE else uEnc [r] := rfl
      have hsz := hsz.out
      have hn2 : n1 ≤ w'.heap.size := hsz
      generalize uEnc [r] = cs at *
      generalize w'.heap.size = n2 at *
      have hq3 := Aside0.mk hq3
      have hf3 := Aside0.mk hf3
      have hg3 := Aside0.mk hg3
      have hls2 := hls.out
      clear hq hf hb hb23 hb3 ho3 hbs hb2 hsz
      generalize hn3 : w3.heap.size = n3 at *
      have hn3 := Lib.hid hn3
      by_cases hin : pin set r = true
      · rw [if_pos hin] at hph
        have hph := Lib.hid hph
        rw [hin]
        clear hin
        go_wp2_with fail
        go_loopw [26] (fun j W => ∃ m : Nat, m ≤ cs.length ∧ j = .int .i64 m ∧ Aside0 (Bq (fun k => (w.heap.size + 1 ≤ k ∧ k < n1) ∨ (n2 ≤ k ∧ k < n3)) w.heap.size w.heap.size ((acc ++ (cs.take m).flatMap hexE).map (Value.int .u8)) W) ∧ Aside0 (Kd.F (Kd.int .i32) W (fun k => w.heap.size + 1 ≤ k ∧ k < n1) (some ad) ds.length ds) ∧ Aside0 (Kd.F (Kd.int .u8) W (fun k => (w.heap.size + 1 ≤ k ∧ k < n1) ∨ (n2 ≤ k ∧ k < n3)) A3 cs.length cs) ∧ Aside0 (Below w.heap.size w W) ∧ Aside0 (n3 ≤ W.heap.size)) (fun j _ => cs.length - (RowKit.intOf j).toNat)
        case atStart => exact ⟨0, Nat.zero_le _, rfl, by simpa using hq3, hf3, hg3, hbt3, ⟨by rw [hn3.out]; exact Nat.le_refl _⟩⟩
        case round =>
          clear hq3 hf3 hg3 hbt3
          obtain ⟨W, hW⟩ : ∃ x, x = wr := ⟨_, rfl⟩
          subst hW
          obtain ⟨m, hm, rfl, hq, hf, hg, hb, hsz⟩ := hrel
          by_cases hlt2 : m < cs.length
          · have hsz := hsz.out
            obtain ⟨ad3, hA3, hcell⟩ := Kd.at_int (Kd.F_now hg.out) (m : Int) (by omega) (by omega)
            rw [Int.toNat_natCast] at hcell
            cases hA3
            have hc8 := rd_byt hcb m hlt2
            have hsn2 := flat_take (f := hexE) cs m hlt2
            have hln2 := flat_len hexE 3 (cs.take m) (fun x _ => by simp [hexE])
            rw [List.length_take, Nat.min_eq_left hm] at hln2
            generalize (cs.take m).flatMap hexE = ac2 at *
            generalize rd cs (m : Int) = c at *
            have hsn2 := Lib.hid hsn2
            have dlt2 : decide ((m : Int) < (cs.length : Int)) = true := decide_eq_true (by omega)
            have hbsz := hb.out.size
            have p1 : 0 ≤ c / 16 := by omega
            have q1 : c / 16 < 16 := by omega
            have p2 : 0 ≤ c % 16 := by omega
            have q2 : c % 16 < 16 := by omega
            have p1 := eq_true p1
            have q1 := eq_true q1
            have p2 := eq_true p2
            have q2 := eq_true q2
            have x1 := bt_at HX (c / 16)
            have x2 := bt_at HX (c % 16)
            go_wp2_with fail
            refine (writebyte_q (fun k => (w.heap.size + 1 ≤ k ∧ k < n1) ∨ (n2 ≤ k ∧ k < n3)) w.heap.size w.heap.size _ 37 W hq.out (fun k hk => by constructor <;> omega) (by simp; omega) hbsz).mono ?_
            rintro e w4 ⟨rfl, hq4, hb4, hk4⟩
            have hsz4 := hk4.1
            go_wp2_with fail
            refine (writebyte_q (fun k => (w.heap.size + 1 ≤ k ∧ k < n1) ∨ (n2 ≤ k ∧ k < n3)) w.heap.size w.heap.size _ (bt HX (c / 16)) w4 hq4 (fun k hk => by constructor <;> omega) (by simp; omega) (by omega)).mono ?_
            rintro e w5 ⟨rfl, hq5, hb5, hk5⟩
            have hsz5 := hk5.1
            go_wp2_with fail
            refine (writebyte_q (fun k => (w.heap.size + 1 ≤ k ∧ k < n1) ∨ (n2 ≤ k ∧ k < n3)) w.heap.size w.heap.size _ (bt HX (c % 16)) w5 hq5 (fun k hk => by constructor <;> omega) (by simp; omega) (by omega)).mono ?_
            rintro e w6 ⟨rfl, hq6, hb6, hk6⟩
            have hsz6 := hk6.1
            go_wp2
            refine ⟨⟨m + 1, by omega, by go_num, ⟨?_⟩, ⟨Kd.F_kept (Kd.F_kept (Kd.F_kept hf.out hk4 (fun k hk hn => hn (.inl hk))) hk5 (fun k hk hn => hn (.inl hk))) hk6 (fun k hk hn => hn (.inl hk))⟩, ⟨Kd.F_kept (Kd.F_kept (Kd.F_kept hg.out hk4 (fun k hk hn => hn hk)) hk5 (fun k hk hn => hn hk)) hk6 (fun k hk hn => hn hk)⟩, ⟨((hb.out.trans hb4).trans hb5).trans hb6⟩, ⟨by omega⟩⟩, by simp [RowKit.intOf]; omega⟩
            rw [hsn2.out]
            simpa [hexE] using hq6
          · have hsz := hsz.out
            have e : cs.take m = cs := List.take_of_length_le (by omega)
            rw [e] at hq
            rw [← hph.out, ← hsn.out] at hq
            clear e
            have dlt2 : decide ((m : Int) < (cs.length : Int)) = false := decide_eq_false (by omega)
            go_wp2
            exact ⟨⟨k + 1, by omega, by go_num, ⟨hq.out.sub (fun _ h => .inl h)⟩, ⟨hf.out⟩, ⟨hb.out⟩, ⟨by omega⟩⟩, by simp [RowKit.intOf]; omega⟩
      · rw [if_neg hin] at hph
        have hin : pin set r = false := by simpa using hin
        have hph := Lib.hid hph
        rw [hin]
        clear hin
        go_wp2_with fail
        go_loopw [26] (fun j W => ∃ m : Nat, m ≤ cs.length ∧ j = .int .i64 m ∧ Aside0 (Bq (fun k => (w.heap.size + 1 ≤ k ∧ k < n1) ∨ (n2 ≤ k ∧ k < n3)) w.heap.size w.heap.size ((acc ++ cs.take m).map (Value.int .u8)) W) ∧ Aside0 (Kd.F (Kd.int .i32) W (fun k => w.heap.size + 1 ≤ k ∧ k < n1) (some ad) ds.length ds) ∧ Aside0 (Kd.F (Kd.int .u8) W (fun k => (w.heap.size + 1 ≤ k ∧ k < n1) ∨ (n2 ≤ k ∧ k < n3)) A3 cs.length cs) ∧ Aside0 (Below w.heap.size w W) ∧ Aside0 (n3 ≤ W.heap.size)) (fun j _ => cs.length - (RowKit.intOf j).toNat)
        case atStart => exact ⟨0, Nat.zero_le _, rfl, by simpa using hq3, hf3, hg3, hbt3, ⟨by rw [hn3.out]; exact Nat.le_refl _⟩⟩
        case round =>
          clear hq3 hf3 hg3 hbt3
          obtain ⟨W, hW⟩ : ∃ x, x = wr := ⟨_, rfl⟩
          subst hW
          obtain ⟨m, hm, rfl, hq, hf, hg, hb, hsz⟩ := hrel
          by_cases hlt2 : m < cs.length
          · have hsz := hsz.out
            obtain ⟨ad3, hA3, hcell⟩ := Kd.at_int (Kd.F_now hg.out) (m : Int) (by omega) (by omega)
            rw [Int.toNat_natCast] at hcell
            cases hA3
            have hc8 := rd_byt hcb m hlt2
            have hsn2 := ptake_snoc cs m hlt2
            have hln2 : (cs.take m).length ≤ 4 := by rw [List.length_take]; omega
            generalize cs.take m = ac2 at *
            generalize rd cs (m : Int) = c at *
            have hsn2 := Lib.hid hsn2
            have dlt2 : decide ((m : Int) < (cs.length : Int)) = true := decide_eq_true (by omega)
            have hbsz := hb.out.size
            go_wp2_with fail
            refine (writebyte_q (fun k => (w.heap.size + 1 ≤ k ∧ k < n1) ∨ (n2 ≤ k ∧ k < n3)) w.heap.size w.heap.size _ c W hq.out (fun k hk => by constructor <;> omega) (by simp; omega) hbsz).mono ?_
            rintro e w4 ⟨rfl, hq4, hb4, hk4⟩
            have hsz4 := hk4.1
            go_wp2
            refine ⟨⟨m + 1, by omega, by go_num, ⟨?_⟩, ⟨Kd.F_kept hf.out hk4 (fun k hk hn => hn (.inl hk))⟩, ⟨Kd.F_kept hg.out hk4 (fun k hk hn => hn hk)⟩, ⟨hb.out.trans hb4⟩, ⟨by omega⟩⟩, by simp [RowKit.intOf]; omega⟩
            rw [hsn2.out]
            simpa using hq4
          · have hsz := hsz.out
            have e : cs.take m = cs := List.take_of_length_le (by omega)
            rw [e] at hq
            rw [← hph.out, ← hsn.out] at hq
            clear e
            have dlt2 : decide ((m : Int) < (cs.length : Int)) = false := decide_eq_false (by omega)
            go_wp2
            exact ⟨⟨k + 1, by omega, by go_num, ⟨hq.out.sub (fun _ h => .inl h)⟩, ⟨hf.out⟩, ⟨hb.out⟩, ⟨by omega⟩⟩, by simp [RowKit.intOf]; omega⟩
    · have dlt : decide ((k : Int) < (ds.length : Int)) = false := decide_eq_false (by omega)
      have e : ds.take k = ds := List.take_of_length_le (by omega)
      rw [e] at hq
      clear e
      have hbyt := pe_byt set ds
      rw [nums_cells _ hbyt] at hq
      go_wp2_with fail
      refine (Try.Builder_String_any w.heap.size w.heap.size _ w' hq.out.is hb.out.size).mono ?_
      rintro e w2 ⟨rfl, hb2⟩
      go_wp2
      go_ret
      exact ⟨rfl, hb.out.trans hb2⟩

def pct_Encode.f (a0 : ByteArray) (a1 : Int) : Option ByteArray := if a0.size ≤ 1000000 then some (strOfNums (pe a1 (uDec (bs a0)))) else none
theorem pct_Encode.calls (a0 : ByteArray) (a1 : Int) (r : ByteArray) (w : World) (h : pct_Encode.f a0 a1 = some r) :
    Calls Try.prog 14 #[.string a0, .int .i64 a1] w fun e w' => e = .returned (.string r) ∧ Below w.heap.size w w' := by
  unfold pct_Encode.f at h
  split at h
  · rename_i c
    obtain rfl := Option.some.inj h
    exact pencode_c a0 a1 w c
  · cases h

end

/-! ### pct_digit: function 37 -/
mutual
def pct_digit.j0 : Nat → Int → Bool → Option (Int × Bool)
  | 0, _, _ => none
  | k + 1, x0, x4 => if x4 = true then (some ((x0 - 48) % 256, true)) else (if x0 ≥ 97 then (pct_digit.j1 k x0 (decide (x0 ≤ 102))) else (pct_digit.j1 k x0 false))
def pct_digit.j1 : Nat → Int → Bool → Option (Int × Bool)
  | 0, _, _ => none
  | k + 1, x0, x13 => if x13 = true then (some ((((x0 - 97) % 256) + 10) % 256, true)) else (if x0 ≥ 65 then (if x0 ≤ 70 then (some ((((x0 - 65) % 256) + 10) % 256, true)) else (some (0, false))) else (some (0, false)))
end
def pct_digit.f (k : Nat) (a0 : Int) : Option (Int × Bool) := if a0 ≥ 48 then (pct_digit.j0 k a0 (decide (a0 ≤ 57))) else (pct_digit.j0 k a0 false)
theorem pct_digit.mono_l : ∀ k, (∀ y0 y1, LeO (pct_digit.j0 k y0 y1) (pct_digit.j0 (k + 1) y0 y1)) ∧ (∀ y0 y1, LeO (pct_digit.j1 k y0 y1) (pct_digit.j1 (k + 1) y0 y1))
  | 0 => ⟨fun _ _ r h => by simp [pct_digit.j0] at h, fun _ _ r h => by simp [pct_digit.j1] at h⟩
  | k + 1 => by
    obtain ⟨ih0, ih1⟩ := pct_digit.mono_l k
    refine ⟨?_, ?_⟩
    · intro y0 y1
      unfold pct_digit.j0
      repeat' first
      | (with_reducible exact ih0 _ _)
      | (with_reducible exact ih1 _ _)
      | (with_reducible exact LeO.refl _)
      | (with_reducible exact LeO.none _)
      | (with_reducible refine LeO.ite ?_ ?_)
      | (with_reducible refine LeO.bind ?_ (fun _ => ?_))
      | exact ih0 _ _
      | exact ih1 _ _
      | exact LeO.none _
      | refine LeO.ite ?_ ?_
      | refine LeO.bind ?_ (fun _ => ?_)
    · intro y0 y1
      unfold pct_digit.j1
      repeat' first
      | (with_reducible exact ih0 _ _)
      | (with_reducible exact ih1 _ _)
      | (with_reducible exact LeO.refl _)
      | (with_reducible exact LeO.none _)
      | (with_reducible refine LeO.ite ?_ ?_)
      | (with_reducible refine LeO.bind ?_ (fun _ => ?_))
      | exact ih0 _ _
      | exact ih1 _ _
      | exact LeO.none _
      | refine LeO.ite ?_ ?_
      | refine LeO.bind ?_ (fun _ => ?_)
theorem pct_digit.mono : ∀ a0 k, LeO (pct_digit.f k a0) (pct_digit.f (k + 1) a0) := by
  intro a0 k
  obtain ⟨ih0, ih1⟩ := pct_digit.mono_l k
  unfold pct_digit.f
  repeat' first
      | (with_reducible exact ih0 _ _)
      | (with_reducible exact ih1 _ _)
      | (with_reducible exact LeO.refl _)
      | (with_reducible exact LeO.none _)
      | (with_reducible refine LeO.ite ?_ ?_)
      | (with_reducible refine LeO.bind ?_ (fun _ => ?_))
      | exact ih0 _ _
      | exact ih1 _ _
      | exact LeO.none _
      | refine LeO.ite ?_ ?_
      | refine LeO.bind ?_ (fun _ => ?_)
set_option maxHeartbeats 8000000 in
set_option maxRecDepth 100000 in
theorem pct_digit.calls (k : Nat) (a0 : Int) (r1 : Int) (r2 : Bool) (w : World) (h : pct_digit.f k a0 = some (r1, r2)) :
    Calls Try.prog 37 #[.int .u8 a0] w fun e w' => e = .returned (.tuple #[.int .u8 r1, .bool r2]) ∧ Drawn0 w w' := by
  have H : (if a0 ≥ 48 then (pct_digit.j0 k a0 (decide (a0 ≤ 57))) else (pct_digit.j0 k a0 false)) = some (r1, r2) := h
  clear h
  have HC2 := Aside0.mk H
  clear H
  go_enter Try.func37, Try.ntmps37
  go_upto_region 1 with (fail)
  go_cut [4] (fun v4 wc => ∃ (kq : Nat) (x4_1 : Bool), v4 = .bool x4_1 ∧ Aside0 (pct_digit.j0 kq a0 x4_1 = some (r1, r2)) ∧ Aside0 (kq ≤ k) ∧ Drawn0 w wc)
  case first =>
    have H := HC2.out
    clear HC2
    by_cases c3 : a0 ≥ 48
    · rw [if_pos c3] at H
      have c3b0 : decide (48 ≤ a0) = true := decide_eq_true c3
      clear c3
      (first | rw [c3b0] | (simp only [i64_w, i32_w]; rw [c3b0]) | skip)
      have H' := Aside0.mk H
      clear H
      go_wp2
      go_meet
      case rel => exact ⟨_, (decide (a0 ≤ 57)), (by first | rfl | (simp; done) | (simp [*]; done)), H', ⟨by first | omega | exact Nat.le_refl _⟩, by repeat (first | exact Drawn0.refl _ | apply Drawn0.step)⟩
    · rw [if_neg c3] at H
      have c3b0 : decide (48 ≤ a0) = false := decide_eq_false c3
      clear c3
      (first | rw [c3b0] | (simp only [i64_w, i32_w]; rw [c3b0]) | skip)
      have H' := Aside0.mk H
      clear H
      go_wp2
      go_meet
      case rel => exact ⟨_, (false), (by first | rfl | (simp; done) | (simp [*]; done)), H', ⟨by first | omega | exact Nat.le_refl _⟩, by repeat (first | exact Drawn0.refl _ | apply Drawn0.step)⟩
  case rest =>
    clear HC2
    try clear p2
    try clear c3
    try clear c3b0
    obtain ⟨kq, x4_1, rfl, HA, HJ1, ⟨mc1, rfl⟩⟩ := hcut
    cases kq with
    | zero => exact absurd HA.out (by simp [pct_digit.j0])
    | succ kj1 =>
      have H := HA.out
      clear HA
      simp only [pct_digit.j0] at H
      by_cases c4 : x4_1 = true
      · subst c4
        have H1 : (some ((a0 - 48) % 256, true)) = some (r1, r2) := by rw [if_pos rfl] at H; exact H
        clear H
        have H := H1
        clear H1
        simp only [Option.some.injEq, Prod.mk.injEq] at H
        obtain ⟨rfl, rfl⟩ := H
        go_wp2
        go_ret2
        exact ⟨by first | rfl | (simp; done) | (simp [*]; done), by repeat (first | exact Drawn0.refl _ | apply Drawn0.step)⟩
      · replace c4 := Bool.eq_false_iff.mpr c4
        subst c4
        have H1 : (if a0 ≥ 97 then (pct_digit.j1 kj1 a0 (decide (a0 ≤ 102))) else (pct_digit.j1 kj1 a0 false)) = some (r1, r2) := by rw [if_neg (show ¬ (false = true) by decide)] at H; exact H
        clear H
        have H := H1
        clear H1
        have HC5 := Aside0.mk H
        clear H
        go_upto_region 3 with (fail)
        go_cut [13] (fun v13 wc => ∃ (kq : Nat) (x13_4 : Bool), v13 = .bool x13_4 ∧ Aside0 (pct_digit.j1 kq a0 x13_4 = some (r1, r2)) ∧ Aside0 (kq ≤ kj1) ∧ Drawn0 w wc)
        case first =>
          have H := HC5.out
          clear HC5
          by_cases c6 : a0 ≥ 97
          · rw [if_pos c6] at H
            have c6b0 : decide (97 ≤ a0) = true := decide_eq_true c6
            clear c6
            (first | rw [c6b0] | (simp only [i64_w, i32_w]; rw [c6b0]) | skip)
            have H' := Aside0.mk H
            clear H
            go_wp2
            go_meet
            case rel => exact ⟨_, (decide (a0 ≤ 102)), (by first | rfl | (simp; done) | (simp [*]; done)), H', ⟨by have := HJ1.out; first | omega | exact Nat.le_refl _⟩, by repeat (first | exact Drawn0.refl _ | apply Drawn0.step)⟩
          · rw [if_neg c6] at H
            have c6b0 : decide (97 ≤ a0) = false := decide_eq_false c6
            clear c6
            (first | rw [c6b0] | (simp only [i64_w, i32_w]; rw [c6b0]) | skip)
            have H' := Aside0.mk H
            clear H
            go_wp2
            go_meet
            case rel => exact ⟨_, (false), (by first | rfl | (simp; done) | (simp [*]; done)), H', ⟨by have := HJ1.out; first | omega | exact Nat.le_refl _⟩, by repeat (first | exact Drawn0.refl _ | apply Drawn0.step)⟩
        case rest =>
          clear HC5
          try clear c1
          try clear p2
          try clear c3
          try clear c3b0
          try clear c4
          try clear c6
          try clear c6b0
          try clear p2
          obtain ⟨kq, x13_4, rfl, HA, HJ4, ⟨mc4, rfl⟩⟩ := hcut
          cases kq with
          | zero => exact absurd HA.out (by simp [pct_digit.j1])
          | succ kj4 =>
            have H := HA.out
            clear HA
            simp only [pct_digit.j1] at H
            by_cases c7 : x13_4 = true
            · subst c7
              have H1 : (some ((((a0 - 97) % 256) + 10) % 256, true)) = some (r1, r2) := by rw [if_pos rfl] at H; exact H
              clear H
              have H := H1
              clear H1
              simp only [Option.some.injEq, Prod.mk.injEq] at H
              obtain ⟨rfl, rfl⟩ := H
              go_wp2
              go_ret2
              exact ⟨by first | rfl | (simp; done) | (simp [*]; done), by repeat (first | exact Drawn0.refl _ | apply Drawn0.step)⟩
            · replace c7 := Bool.eq_false_iff.mpr c7
              subst c7
              have H1 : (if a0 ≥ 65 then (if a0 ≤ 70 then (some ((((a0 - 65) % 256) + 10) % 256, true)) else (some (0, false))) else (some (0, false))) = some (r1, r2) := by rw [if_neg (show ¬ (false = true) by decide)] at H; exact H
              clear H
              have H := H1
              clear H1
              by_cases c8 : a0 ≥ 65
              · rw [if_pos c8] at H
                have c8b0 : decide (65 ≤ a0) = true := decide_eq_true c8
                clear c8
                by_cases c9 : a0 ≤ 70
                · rw [if_pos c9] at H
                  have c9b0 : decide (a0 ≤ 70) = true := decide_eq_true c9
                  clear c9
                  simp only [Option.some.injEq, Prod.mk.injEq] at H
                  obtain ⟨rfl, rfl⟩ := H
                  go_wp2
                  go_ret2
                  exact ⟨by first | rfl | (simp; done) | (simp [*]; done), by repeat (first | exact Drawn0.refl _ | apply Drawn0.step)⟩
                · rw [if_neg c9] at H
                  have c9b0 : decide (a0 ≤ 70) = false := decide_eq_false c9
                  clear c9
                  simp only [Option.some.injEq, Prod.mk.injEq] at H
                  obtain ⟨rfl, rfl⟩ := H
                  go_wp2
                  go_ret2
                  exact ⟨by first | rfl | (simp; done) | (simp [*]; done), by repeat (first | exact Drawn0.refl _ | apply Drawn0.step)⟩
              · rw [if_neg c8] at H
                have c8b0 : decide (65 ≤ a0) = false := decide_eq_false c8
                clear c8
                simp only [Option.some.injEq, Prod.mk.injEq] at H
                obtain ⟨rfl, rfl⟩ := H
                go_wp2
                go_ret2
                exact ⟨by first | rfl | (simp; done) | (simp [*]; done), by repeat (first | exact Drawn0.refl _ | apply Drawn0.step)⟩

end Go.Proofs.Ytdbihmkeljakeaa.PPct
