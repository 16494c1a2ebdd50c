/- Lemmas of the session on the law PctTells. -/
import Derived.Test.YtdbihmkeljakeaaLPctTells
import Derived.Test.YtdbihmkeljakeaaSh
import Derived.Lib.Hide
import Derived.Lib.IndexAny
namespace Go.Proofs.Ytdbihmkeljakeaa.LinkPctTells
open Go Go.RowKit Go.Proofs.Ytdbihmkeljakeaa Go.Proofs.Ytdbihmkeljakeaa.PPctTells Go.Proofs.YtdbihmkeljakeaaW.PrintWords Go.Proofs.YtdbihmkeljakeaaW.PrintLast Go.Proofs.YtdbihmkeljakeaaW.PrintMore Go.Proofs.Ytdbihmkeljakeaa.Utf Go.Lib
set_option linter.unusedVariables false
set_option linter.unusedSimpArgs false
set_option maxRecDepth 100000
/-- What a set has beside the controls. -/
def xb (set : Int) : ByteArray :=
  if set = 1 then ⟨#[32, 34, 60, 62, 96]⟩ else if set = 2 then ⟨#[32, 34, 35, 60, 62]⟩ else if set = 3 then ⟨#[32, 34, 35, 60, 62, 39]⟩
  else if set = 4 then ⟨#[32, 34, 35, 60, 62, 63, 94, 96, 123, 125]⟩ else if set = 5 then ⟨#[32, 34, 35, 60, 62, 63, 94, 96, 123, 125, 47, 58, 59, 61, 64, 91, 92, 93, 124]⟩
  else if set = 6 then ⟨#[32, 34, 35, 60, 62, 63, 94, 96, 123, 125, 47, 58, 59, 61, 64, 91, 92, 93, 124, 36, 37, 38, 43, 44]⟩ else ⟨#[]⟩
/-- Is a number in a set? -/
def pin (set r : Int) : Bool :=
  if set < 0 ∨ 6 < set ∨ r < 0 ∨ 1114111 < r then false else if r < 32 ∨ 126 < r then true else (bs (xb set)).contains r
theorem extra_f (set : Int) : pct_extra.f set = some (xb set, decide (0 ≤ set ∧ set ≤ 6)) := by
  unfold pct_extra.f xb
  by_cases c0 : set = 0
  · subst c0; simp
  by_cases c1 : set = 1
  · subst c1; simp
  by_cases c2 : set = 2
  · subst c2; simp
  by_cases c3 : set = 3
  · subst c3; simp
  by_cases c4 : set = 4
  · subst c4; simp
  by_cases c5 : set = 5
  · subst c5; simp
  by_cases c6 : set = 6
  · subst c6; simp
  · simp only [if_neg c0, if_neg c1, if_neg c2, if_neg c3, if_neg c4, if_neg c5, if_neg c6]
    rw [decide_eq_false (by omega)]
theorem extra_c (set : Int) (w : World) : Calls Try.prog 22 #[.int .i64 set] w fun e w' => e = .returned (.tuple #[.string (xb set), .bool (decide (0 ≤ set ∧ set ≤ 6))]) ∧ Below w.heap.size w w' :=
  (pct_extra.calls set _ _ w (extra_f set)).mono fun e w' h => ⟨h.1, h.2.below⟩
theorem bs_contains (s : ByteArray) (r : Int) (h : 0 ≤ r) (h2 : r < 256) : (bs s).contains r = decide (0 ≤ indexByte s.data.toList r.toNat.toUInt8) := by
  rw [← contains_iff_indexByte]
  unfold bs Go.Proofs.YtdbihmkeljakeaaW.PrintWords.bytesOf
  generalize s.data.toList = l
  induction l with
  | nil => rfl
  | cons c l ih =>
    rw [List.map_cons, List.contains_cons, List.contains_cons, ih]
    congr 1
    rw [Bool.eq_iff_iff, beq_iff_eq, beq_iff_eq]
    constructor
    · intro e
      subst e
      simp
    · intro e
      rw [← e]
      simp only [Nat.toUInt8, UInt8.toNat_ofNat']
      omega
set_option maxHeartbeats 1000000 in
theorem in_c (set r : Int) (w : World) (_h0 : -2147483648 ≤ r) (_h1 : r < 2147483648) :
    Calls Try.prog 11 #[.int .i64 set, .int .i32 r] w fun e w' => e = .returned (.bool (pin set r)) ∧ Below w.heap.size w w' := by
  have kx := extra_c set w
  by_cases c1 : 0 ≤ set ∧ set ≤ 6
  · rw [decide_eq_true c1] at kx
    by_cases c2 : r < 0
    · have e : pin set r = false := by unfold pin; rw [if_pos (by omega)]
      rw [e]
      have d1 : decide (r < 0) = true := decide_eq_true c2
      clear e
      have kx := Lib.hid kx
      go_enter Try.func11, Try.ntmps11
      go_wp2_with fail
      refine kx.out.mono ?_
      rintro e w1 ⟨rfl, hb⟩
      go_wp2
      go_ret
      exact ⟨by simp, hb⟩
    by_cases c3 : 1114111 < r
    · have e : pin set r = false := by unfold pin; rw [if_pos (by omega)]
      rw [e]
      have d1 : decide (r < 0) = false := decide_eq_false c2
      have d2 : decide (1114111 < r) = true := decide_eq_true c3
      clear e
      have kx := Lib.hid kx
      go_enter Try.func11, Try.ntmps11
      go_wp2_with fail
      refine kx.out.mono ?_
      rintro e w1 ⟨rfl, hb⟩
      go_wp2
      go_ret
      exact ⟨by simp, hb⟩
    have d1 : decide (r < 0) = false := decide_eq_false c2
    have d2 : decide (1114111 < r) = false := decide_eq_false c3
    by_cases c4 : r < 32
    · have e : pin set r = true := by unfold pin; rw [if_neg (by omega), if_pos (by omega)]
      rw [e]
      have d3 : decide (r < 32) = true := decide_eq_true c4
      clear e
      have kx := Lib.hid kx
      go_enter Try.func11, Try.ntmps11
      go_wp2_with fail
      refine kx.out.mono ?_
      rintro e w1 ⟨rfl, hb⟩
      go_wp2
      go_ret
      exact ⟨by simp, hb⟩
    have d3 : decide (r < 32) = false := decide_eq_false c4
    by_cases c5 : 126 < r
    · have e : pin set r = true := by unfold pin; rw [if_neg (by omega), if_pos (by omega)]
      rw [e]
      have d4 : decide (126 < r) = true := decide_eq_true c5
      clear e
      have kx := Lib.hid kx
      go_enter Try.func11, Try.ntmps11
      go_wp2_with fail
      refine kx.out.mono ?_
      rintro e w1 ⟨rfl, hb⟩
      go_wp2
      go_ret
      exact ⟨by simp, hb⟩
    have d4 : decide (126 < r) = false := decide_eq_false c5
    have e : pin set r = decide (0 ≤ indexByte (xb set).data.toList r.toNat.toUInt8) := by
      unfold pin; rw [if_neg (by omega), if_neg (by omega), bs_contains _ _ (by omega) (by omega)]
    have hr0 : 0 ≤ r := by omega
    have hr1 : r ≤ 126 := by omega
    have ki := fun w => Try.strings_IndexByte (xb set) r w
    generalize indexByte (xb set).data.toList r.toNat.toUInt8 = z at *
    have e := Lib.hid e
    have kx := Lib.hid kx
    have ki := Lib.hid ki
    go_enter Try.func11, Try.ntmps11
    go_wp2_with fail
    refine kx.out.mono ?_
    rintro e' w1 ⟨rfl, hb⟩
    go_wp2_with fail
    refine (ki.out w1).mono ?_
    rintro e' w2 ⟨rfl, rfl⟩
    go_wp2
    go_ret
    exact ⟨by simp [e.out], hb⟩
  · rw [decide_eq_false c1] at kx
    have e : pin set r = false := by unfold pin; rw [if_pos (by omega)]
    rw [e]
    clear e
    have kx := Lib.hid kx
    go_enter Try.func11, Try.ntmps11
    go_wp2_with fail
    refine kx.out.mono ?_
    rintro e w1 ⟨rfl, hb⟩
    go_wp2
    go_ret
    exact ⟨by simp, hb⟩

theorem bt_drop (s : ByteArray) (i : Nat) (h : i < s.size) : (bs s).drop i = bt s (i : Int) :: (bs s).drop (i + 1) := by
  rw [rd_drop (bs s) i (by rw [bs_len]; exact h), rd_bytesOf]
theorem bt_byt (s : ByteArray) (i : Int) : 0 ≤ bt s i ∧ bt s i < 256 := by
  unfold bt
  split
  · have := (s[i.toNat]).toNat_lt; omega
  · omega
theorem among_l0 (r : Int) (s : ByteArray) (hs : s.size ≤ 1000000) : ∀ (n i k : Nat), s.size ≤ i + n → n < k → gossamerref4_among.l0 k r s i = some (((bs s).drop i).contains r)
  | n, i, k, hn, hk => by
    obtain ⟨k, rfl⟩ : ∃ q, k = q + 1 := ⟨k - 1, by omega⟩
    simp only [gossamerref4_among.l0]
    by_cases c : i < s.size
    · have hb := bt_byt s i
      rw [if_pos (by omega), if_pos (by omega), w32 (by omega) (by omega), bt_drop s i c, List.contains_cons]
      by_cases d : bt s (i : Int) = r
      · rw [if_pos d]; simp [d]
      · rw [if_neg d, w64 (by omega) (by omega)]
        cases n with
        | zero => omega
        | succ n =>
          have := among_l0 r s hs n (i + 1) k (by omega) (by omega)
          rw [Int.natCast_add] at this
          refine this.trans ?_
          have d2 : (r == bt s (i : Int)) = false := by rw [beq_eq_false_iff_ne]; exact fun e => d e.symm
          rw [d2, Bool.false_or]
    · rw [if_neg (by omega), List.drop_eq_nil_of_le (by rw [bs_len]; omega)]; rfl
theorem among_f (r : Int) (s : ByteArray) (hs : s.size ≤ 1000000) (k : Nat) (hk : s.size < k) : gossamerref4_among.f k r s = some ((bs s).contains r) := by
  have := among_l0 r s hs s.size 0 k (by omega) hk
  simpa [gossamerref4_among.f] using this
theorem rin_f (set r : Int) (k : Nat) (hk : 60 ≤ k) : gossamerref4_In.f k set r = some (pin set r) := by
  obtain ⟨k, rfl⟩ : ∃ q, k = q + 2 := ⟨k - 2, by omega⟩
  unfold gossamerref4_In.f
  have bad : gossamerref4_In.j0 (k + 2) set r true = some false := by simp only [gossamerref4_In.j0]; rfl
  by_cases c1 : set < 0
  · rw [if_pos c1, bad]; unfold pin; rw [if_pos (by omega)]
  rw [if_neg c1]
  by_cases c2 : set > 6
  · rw [if_pos c2, bad]; unfold pin; rw [if_pos (by omega)]
  rw [if_neg c2]
  by_cases c3 : r < 0
  · rw [if_pos c3, bad]; unfold pin; rw [if_pos (by omega)]
  rw [if_neg c3]
  by_cases c4 : r > 1114111
  · rw [decide_eq_true c4, bad]; unfold pin; rw [if_pos (by omega)]
  rw [decide_eq_false c4]
  simp only [gossamerref4_In.j0]
  try rw [if_neg (show ¬ (false = true) by simp)]
  unfold pin
  rw [if_neg (show ¬ (set < 0 ∨ 6 < set ∨ r < 0 ∨ 1114111 < r) by omega)]
  by_cases c5 : r < 32
  · rw [if_pos c5, if_pos (show r < 32 ∨ 126 < r by omega)]; rfl
  rw [if_neg c5]
  by_cases c6 : r > 126
  · rw [decide_eq_true c6, if_pos (show r < 32 ∨ 126 < r by omega)]; rfl
  rw [decide_eq_false c6, if_neg (show ¬ (r < 32 ∨ 126 < r) by omega)]
  simp only [gossamerref4_In.j1]
  try rw [if_neg (show ¬ (false = true) by simp)]
  have am : ∀ s : ByteArray, s.size ≤ 50 → gossamerref4_among.f k r s = some ((bs s).contains r) := fun s h => among_f r s (by omega) k (by omega)
  rw [am _ (by decide), am _ (by decide), am _ (by decide), am _ (by decide), am _ (by decide), am _ (by decide)]
  simp only [Option.bind_some]
  obtain rfl | rfl | rfl | rfl | rfl | rfl | rfl : set = 0 ∨ set = 1 ∨ set = 2 ∨ set = 3 ∨ set = 4 ∨ set = 5 ∨ set = 6 := by omega
  · rfl
  · rfl
  · rfl
  · rfl
  · show (if (bs ⟨#[32, 34, 35, 60, 62, 63, 94, 96, 123, 125]⟩).contains r = true then some true else some false) = some ((bs ⟨#[32, 34, 35, 60, 62, 63, 94, 96, 123, 125]⟩).contains r)
    cases (bs ⟨#[32, 34, 35, 60, 62, 63, 94, 96, 123, 125]⟩).contains r <;> rfl
  · have e : (bs (xb 5)).contains r = ((bs ⟨#[32, 34, 35, 60, 62, 63, 94, 96, 123, 125]⟩).contains r || (bs ⟨#[47, 58, 59, 61, 64, 91, 92, 93, 124]⟩).contains r) := by
      have : bs (xb 5) = bs ⟨#[32, 34, 35, 60, 62, 63, 94, 96, 123, 125]⟩ ++ bs ⟨#[47, 58, 59, 61, 64, 91, 92, 93, 124]⟩ := by decide
      rw [this, List.contains_append]
    rw [e]
    cases (bs ⟨#[32, 34, 35, 60, 62, 63, 94, 96, 123, 125]⟩).contains r <;> cases (bs ⟨#[47, 58, 59, 61, 64, 91, 92, 93, 124]⟩).contains r <;> rfl
  · have e : (bs (xb 6)).contains r = ((bs ⟨#[32, 34, 35, 60, 62, 63, 94, 96, 123, 125]⟩).contains r || ((bs ⟨#[47, 58, 59, 61, 64, 91, 92, 93, 124]⟩).contains r || (bs ⟨#[36, 37, 38, 43, 44]⟩).contains r)) := by
      have : bs (xb 6) = bs ⟨#[32, 34, 35, 60, 62, 63, 94, 96, 123, 125]⟩ ++ (bs ⟨#[47, 58, 59, 61, 64, 91, 92, 93, 124]⟩ ++ bs ⟨#[36, 37, 38, 43, 44]⟩) := by decide
      rw [this, List.contains_append, List.contains_append]
    rw [e]
    cases (bs ⟨#[32, 34, 35, 60, 62, 63, 94, 96, 123, 125]⟩).contains r <;> cases (bs ⟨#[47, 58, 59, 61, 64, 91, 92, 93, 124]⟩).contains r <;> cases (bs ⟨#[36, 37, 38, 43, 44]⟩).contains r <;> rfl
theorem rin_c (set r : Int) (w : World) : Calls Try.prog 12 #[.int .i64 set, .int .i32 r] w fun e w' => e = .returned (.bool (pin set r)) ∧ Below w.heap.size w w' :=
  (gossamerref4_In.calls 60 set r _ w (rin_f set r 60 (by omega))).mono fun e w' h => ⟨h.1, h.2.below⟩

/-- A builder that the call has made, whose row is none of the blocks of q. -/
def Bq (q : Nat → Prop) (B b : Nat) (bs : List Value) (w : World) : Prop :=
  B ≤ b ∧ ∃ p v, (p = .pointer none ∨ p = .pointer (some ⟨b, 0, none⟩)) ∧ w.heap[b]? = some (.cells #[p, v] 47 (0, 0)) ∧ w.ownsRow B 5 1 v bs.length bs ∧ some b ≠ v.ownBlock ∧ ∀ k, q k → v.ownBlock ≠ some k
theorem Bq.is {q : Nat → Prop} {B b : Nat} {bs : List Value} {w : World} (h : Bq q B b bs w) : Lib.IsBuilder 47 5 B b bs w := by
  obtain ⟨hB, p, v, hp | hp, h1, h2, h3, _⟩ := h
  · subst hp; exact .inl ⟨hB, v, h1, h2, fun e => h3 e.symm⟩
  · subst hp; exact .inr ⟨hB, v, h1, h2, fun e => h3 e.symm⟩
theorem Bq.lt {q : Nat → Prop} {B b : Nat} {bs : List Value} {w : World} (h : Bq q B b bs w) : b < w.heap.size := by
  obtain ⟨hB, p, v, hp, h1, _⟩ := h
  exact blk_lt h1
theorem Bq.sub {q q' : Nat → Prop} {B b : Nat} {bs : List Value} {w : World} (h : Bq q B b bs w) (hq : ∀ k, q' k → q k) : Bq q' B b bs w := by
  obtain ⟨hB, p, v, hp, h1, h2, h3, h4⟩ := h
  exact ⟨hB, p, v, hp, h1, h2, h3, fun k hk => h4 k (hq k hk)⟩
theorem Bq.more {q : Nat → Prop} {B b : Nat} {bs : List Value} {w w' : World} (h : Bq q B b bs w) (hb : Below w.heap.size w w') : Bq (fun k => q k ∨ w.heap.size ≤ k) B b bs w' := by
  obtain ⟨hB, p, v, hp, h1, h2, h3, h4⟩ := h
  have hlt : b < w.heap.size := blk_lt h1
  refine ⟨hB, p, v, hp, (hb.block b hlt).trans h1, own_move h2 (fun k hk => hb.block k (own_lt h2 k hk)), h3, ?_⟩
  rintro k (hk | hk)
  · exact h4 k hk
  · intro e
    have := own_lt h2 k e
    omega
theorem Bq.below {q : Nat → Prop} {B b : Nat} {bs : List Value} {w w' : World} (h : Bq q B b bs w) (hb : Below w.heap.size w w') : Bq q B b bs w' := h.more hb |>.sub fun _ hk => .inl hk
theorem Bq.fresh (q : Nat → Prop) (w : World) (B : Nat) (hB : B ≤ w.heap.size) : Bq q B w.heap.size [] (w.alloc (.cells #[.pointer none, .slice none 0 0] 47)) :=
  ⟨hB, _, _, .inl rfl, heap_alloc_new _ _, own_nil _ _ _ _, by simp [Value.ownBlock], fun _ _ => by simp [Value.ownBlock]⟩
theorem copycheck_q (q : Nat → Prop) (B b : Nat) (bs : List Value) (w : World) (h : Bq q B b bs w) (hq : ¬ q b) :
    Calls Try.prog 36 #[.pointer (some ⟨b, 0, none⟩)] w fun e w' => e = .returned (.tuple #[]) ∧ (∃ v, w'.heap[b]? = some (.cells #[.pointer (some ⟨b, 0, none⟩), v] 47 (0, 0)) ∧ w'.ownsRow B 5 1 v bs.length bs ∧ some b ≠ v.ownBlock ∧ (∀ k, q k → v.ownBlock ≠ some k)) ∧ Below B w w' ∧ Kept w w' (fun k => ¬ q k) := by
  obtain ⟨hB, p, v, hp, h1, h2, h3, h4⟩ := h
  rcases hp with rfl | rfl
  · have hA : Lib.BuilderAt 47 5 B b (.pointer none) bs w := ⟨hB, v, h1, h2, fun e => h3 e.symm⟩
    refine (Any.Builder_copyCheck_fresh Try.lays240 Try.Builder_X72_240 b w hA.cell0 hA.shape hA.frozen0).mono ?_
    rintro e w' ⟨rfl, rfl⟩
    refine ⟨rfl, ⟨v, ?_, own_setCell h2 (p := ⟨b, 0, none⟩) h3 _, h3, h4⟩, (Below.refl B w).setCell (p := ⟨b, 0, none⟩) hB _, (Kept.refl w _).setCell (p := ⟨b, 0, none⟩) (.inl hq) _⟩
    simp [World.setCell, Array.getElem?_modify, h1, Try.lays240_ren]
  · have hA : Lib.BuilderAt 47 5 B b (.pointer (some ⟨b, 0, none⟩)) bs w := ⟨hB, v, h1, h2, fun e => h3 e.symm⟩
    refine (Any.Builder_copyCheck_used Try.lays240 Try.Builder_X72_240 b w hA.cell0).mono ?_
    rintro e w' ⟨rfl, rfl⟩
    exact ⟨rfl, ⟨v, h1, h2, h3, h4⟩, Below.refl B _, Kept.refl _ _⟩
set_option maxHeartbeats 2000000 in
theorem writebyte_q (q : Nat → Prop) (B b : Nat) (bs : List Value) (c : Int) (w : World) (h : Bq q B b bs w) (hq : ∀ k, q k → k ≠ b ∧ k < w.heap.size) (hlen : bs.length + 1 ≤ 1000000000) (hBw : B ≤ w.heap.size) :
    Calls Try.prog 27 #[.pointer (some ⟨b, 0, none⟩), .int .u8 c] w fun e w' => e = .returned .nilIface ∧ Bq q B b (bs ++ [.int .u8 c]) w' ∧ Below B w w' ∧ Kept w w' (fun k => ¬ q k) := by
  have hqb : ¬ q b := fun hk => (hq b hk).1 rfl
  have hB := h.1
  go_enter Try.func27, Try.ntmps27
  go_wp2_with fail
  refine (copycheck_q q B b bs _ h hqb).mono ?_
  rintro e w1 ⟨rfl, ⟨v, hbk, hown, hne, hnq⟩, hb1, hk1⟩
  have c0 : w1.cell? ⟨b, 0, none⟩ = some (.pointer (some ⟨b, 0, none⟩)) := by rw [Lib.cell_of_heap hbk]; rfl
  have c1 : w1.cell? ⟨b, 1, none⟩ = some v := by rw [Lib.cell_of_heap hbk]; rfl
  have hlt : b < w1.heap.size := blk_lt hbk
  have hsz := hb1.size
  go_wp2_with (at_builtin; go_loud (refine print_append_cells (w0 := w) B rfl _ _ 27 5 (.int .u8 0) 1 1 rfl Try.underlying27 info5 rfl (by decide) (by decide) v bs.length bs [.int .u8 c] rfl rfl rfl (fun u hu => by simp at hu; subst hu; rfl) hown hb1 (by omega) (by omega) ?_))
  intro v' w2 hown' hb2 hgrow hat
  have hb2' : w2.heap[b]? = some (.cells #[.pointer (some ⟨b, 0, none⟩), v] 47 (0, 0)) := by
    rw [hgrow.block b hlt hne]
    exact hbk
  have d0 : w2.cell? ⟨b, 0, none⟩ = some (.pointer (some ⟨b, 0, none⟩)) := by rw [Lib.cell_of_heap hb2']; rfl
  have d1 : w2.cell? ⟨b, 1, none⟩ = some v := by rw [Lib.cell_of_heap hb2']; rfl
  have f1 : w2.frozen? ⟨b, 1, none⟩ = false := Lib.frozen_of_heap hb2' 1
  have hk2 : Kept w w2 (fun k => ¬ q k) := Kept.of_grown hgrow hk1 (fun k hk => .inl fun hqk => hnq k hqk hk)
  have hnq' : ∀ k, q k → v'.ownBlock ≠ some k := by
    intro k hk e
    rcases hat with h' | ⟨g, h', hg⟩
    · rw [h'] at e; exact hnq k hk e
    · rw [h'] at e; injection e with e; have := (hq k hk).2; omega
  have hne' : some b ≠ v'.ownBlock := by
    rcases hat with h' | ⟨g, h', hg⟩
    · rw [h']; exact hne
    · rw [h']; intro e; injection e with e; omega
  obtain ⟨A, cap, rfl⟩ := own_slice hown'
  go_wp2
  go_ret
  refine ⟨rfl, ⟨hB, _, _, .inr rfl, ?_, ?_, hne', hnq'⟩, hb2.setCell (p := ⟨b, 1, none⟩) hB _, hk2.setCell (p := ⟨b, 1, none⟩) (.inl hqb) _⟩
  · simp [World.setCell, Array.getElem?_modify, hb2']
  · simpa using own_setCell hown' (p := ⟨b, 1, none⟩) hne' _

/-- The hex digits. -/
abbrev HX : ByteArray := ⟨#[48, 49, 50, 51, 52, 53, 54, 55, 56, 57, 65, 66, 67, 68, 69, 70]⟩
def hexE (c : Int) : List Int := [37, bt HX (c / 16), bt HX (c % 16)]
/-- What one number is told as. -/
def ph (set r : Int) : List Int := if pin set r = true then (uEnc [r]).flatMap hexE else uEnc [r]
/-- Numbers told by a set. -/
def pe (set : Int) (rs : List Int) : List Int := rs.flatMap (ph set)
theorem u8_and15 (x : Int) (h0 : 0 ≤ x) (h1 : x < 256) : Go.bits .and .u8 x 15 = x % 16 := by
  obtain ⟨n, rfl⟩ : ∃ n : Nat, x = n := ⟨x.toNat, by omega⟩
  have : n < 256 := by omega
  clear h0 h1
  revert n
  decide
theorem enc1_len (r : Int) : (uEnc [r]).length ≤ 4 := by
  rw [encode_cons, encode_nil, List.append_nil]; exact enc_len.2
theorem hexE_byt {c : Int} : Byt (hexE c) := by
  unfold hexE
  intro x hx
  simp only [List.mem_cons, List.not_mem_nil, or_false] at hx
  obtain rfl | rfl | rfl := hx
  · omega
  · exact ⟨(bt_byt _ _).1, (bt_byt _ _).2⟩
  · exact ⟨(bt_byt _ _).1, (bt_byt _ _).2⟩
theorem flat_len {α β : Type} (f : α → List β) (m : Nat) : ∀ (xs : List α), (∀ x ∈ xs, (f x).length ≤ m) → (xs.flatMap f).length ≤ m * xs.length
  | [], _ => by simp
  | x :: xs, h => by
    rw [List.flatMap_cons, List.length_append, List.length_cons]
    have h1 := h x (List.mem_cons_self ..)
    have h2 := flat_len f m xs (fun y hy => h y (List.mem_cons_of_mem _ hy))
    have : m * (xs.length + 1) = m * xs.length + m := by rw [Nat.mul_succ]
    omega
theorem ph_len (set r : Int) : (ph set r).length ≤ 12 := by
  unfold ph
  have h4 := enc1_len r
  split
  · have := flat_len hexE 3 (uEnc [r]) (fun x _ => by simp [hexE])
    omega
  · omega
theorem ph_byt (set r : Int) : Byt (ph set r) := by
  unfold ph
  split
  · intro x hx
    obtain ⟨c, -, hc⟩ := List.mem_flatMap.1 hx
    exact hexE_byt x hc
  · exact encode_byt _
theorem pe_byt (set : Int) (rs : List Int) : Byt (pe set rs) := fun x hx => by
  obtain ⟨c, -, hc⟩ := List.mem_flatMap.1 hx
  exact ph_byt set c x hc
theorem pe_len (set : Int) (rs : List Int) : (pe set rs).length ≤ 12 * rs.length := flat_len _ _ _ (fun x _ => ph_len set x)
theorem pe_take (set : Int) (rs : List Int) (k : Nat) (h : k < rs.length) : pe set (rs.take (k + 1)) = pe set (rs.take k) ++ ph set (rd rs (k : Int)) := by
  unfold pe
  rw [List.take_succ_eq_append_getElem h, List.flatMap_append, List.flatMap_cons, List.flatMap_nil, List.append_nil]
  congr 2
  simp [rd, h]
theorem flat_take {f : Int → List Int} (rs : List Int) (k : Nat) (h : k < rs.length) : (rs.take (k + 1)).flatMap f = (rs.take k).flatMap f ++ f (rd rs (k : Int)) := by
  rw [List.take_succ_eq_append_getElem h, List.flatMap_append, List.flatMap_cons, List.flatMap_nil, List.append_nil]
  congr 2
  simp [rd, h]
theorem nums_cells (xs : List Int) (h : Byt xs) : xs.map (Value.int .u8) = Lib.byteCells (xs.map fun n => UInt8.ofNat n.toNat) := by
  unfold Lib.byteCells
  rw [List.map_map]
  refine List.map_congr_left fun x hx => ?_
  have := h x hx
  simp only [Function.comp, UInt8.toNat_ofNat']
  congr 1
  omega

end Go.Proofs.Ytdbihmkeljakeaa.LinkPctTells
