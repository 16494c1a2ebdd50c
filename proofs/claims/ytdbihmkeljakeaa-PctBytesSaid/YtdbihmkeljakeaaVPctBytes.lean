/- What pct.Decode reads of bytes that are told by % and two digits each: the walk of the law PctBytes. Conditions: bytes, as many as the law lets in. -/
import Derived.Test.YtdbihmkeljakeaaUs
import Derived.Test.YtdbihmkeljakeaaPPctx0
import Derived.Test.YtdbihmkeljakeaaPPctx1
import Derived.Test.YtdbihmkeljakeaaPPctx2
import Derived.Test.YtdbihmkeljakeaaPPctx3
import Derived.Test.YtdbihmkeljakeaaPPctx4
import Derived.Test.YtdbihmkeljakeaaPPctx5
import Derived.Lib.Hide
import Derived.Deep.QuietTactic
import Derived.BigQuiet
namespace Go.Proofs.Ytdbihmkeljakeaa.LinkPct
open Go Go.RowKit Go.Proofs.Ytdbihmkeljakeaa Go.Proofs.Ytdbihmkeljakeaa.PPct Go.Proofs.YtdbihmkeljakeaaW.PrintWords Go.Proofs.YtdbihmkeljakeaaW.PrintLast Go.Proofs.YtdbihmkeljakeaaW.PrintMore Go.Proofs.Ytdbihmkeljakeaa.Utf Go.Lib
set_option linter.unusedVariables false
set_option linter.unusedSimpArgs false
set_option maxRecDepth 100000
/-- What a hex digit tells; -1: it is none. -/
def hd (c : Int) : Int := if 48 ≤ c ∧ c ≤ 57 then c - 48 else if 97 ≤ c ∧ c ≤ 102 then c - 87 else if 65 ≤ c ∧ c ≤ 70 then c - 55 else -1
theorem hd_le (c : Int) : -1 ≤ hd c ∧ hd c ≤ 15 := by unfold hd; constructor <;> (repeat' split) <;> omega
/-- The byte that a % at the head tells. -/
def tok (xs : List Int) : Option Int := if 3 ≤ xs.length ∧ rd xs 0 = 37 ∧ 0 ≤ hd (rd xs 1) ∧ 0 ≤ hd (rd xs 2) then some (hd (rd xs 1) * 16 + hd (rd xs 2)) else none
def pdn : Nat → List Int → List Int
  | 0, _ => []
  | n + 1, xs => if xs.length = 0 then [] else match tok xs with
    | some x => x :: pdn n (xs.drop 3)
    | none => rd xs 0 :: pdn n (xs.drop 1)
/-- What a text's bytes tell. -/
def pd (xs : List Int) : List Int := pdn xs.length xs
theorem tok_len {xs : List Int} {x : Int} (h : tok xs = some x) : 3 ≤ xs.length := by
  unfold tok at h
  split at h
  · rename_i hh; exact hh.1
  · cases h
theorem pdn_fuel : ∀ (n m : Nat) (xs : List Int), xs.length ≤ n → xs.length ≤ m → pdn n xs = pdn m xs
  | 0, 0, _, _, _ => rfl
  | 0, m + 1, xs, h, _ => by simp only [pdn]; rw [if_pos (by omega)]
  | n + 1, 0, xs, _, h => by simp only [pdn]; rw [if_pos (by omega)]
  | n + 1, m + 1, xs, h1, h2 => by
    simp only [pdn]
    by_cases c : xs.length = 0
    · rw [if_pos c, if_pos c]
    · rw [if_neg c, if_neg c]
      cases tok xs with
      | some x => simp only; rw [pdn_fuel n m (xs.drop 3) (by simp; omega) (by simp; omega)]
      | none => simp only; rw [pdn_fuel n m (xs.drop 1) (by simp; omega) (by simp; omega)]
theorem pd_nil : pd [] = [] := rfl
theorem pd_some {xs : List Int} {x : Int} (h : tok xs = some x) : pd xs = x :: pd (xs.drop 3) := by
  have hl := tok_len h
  unfold pd
  obtain ⟨n, hn⟩ : ∃ n, xs.length = n + 1 := ⟨xs.length - 1, by omega⟩
  rw [hn, pdn, if_neg (by omega), h]
  simp only
  rw [pdn_fuel n (xs.drop 3).length _ (by simp; omega) (Nat.le_refl _)]
theorem pd_none {xs : List Int} (h0 : 0 < xs.length) (h : tok xs = none) : pd xs = rd xs 0 :: pd (xs.drop 1) := by
  unfold pd
  obtain ⟨n, hn⟩ : ∃ n, xs.length = n + 1 := ⟨xs.length - 1, by omega⟩
  rw [hn, pdn, if_neg (by omega), h]
  simp only
  rw [pdn_fuel n (xs.drop 1).length _ (by simp; omega) (Nat.le_refl _)]
theorem digit_f (c : Int) (h0 : 0 ≤ c) (h1 : c < 256) (k : Nat) (hk : 3 ≤ k) : pct_digit.f k c = some (if 0 ≤ hd c then (hd c, true) else (0, false)) := by
  obtain ⟨k, rfl⟩ : ∃ q, k = q + 2 := ⟨k - 2, by omega⟩
  unfold pct_digit.f
  by_cases a1 : 48 ≤ c
  · rw [if_pos (show c ≥ 48 from a1)]
    by_cases a2 : c ≤ 57
    · have e : hd c = c - 48 := by unfold hd; rw [if_pos ⟨a1, a2⟩]
      have e3 : (c - 48) % 256 = c - 48 := by omega
      rw [e, decide_eq_true a2, if_pos (show 0 ≤ c - 48 by omega)]
      simp [pct_digit.j0, e3]
    · by_cases a3 : 97 ≤ c
      · by_cases a4 : c ≤ 102
        · have e : hd c = c - 87 := by unfold hd; rw [if_neg (by omega), if_pos ⟨a3, a4⟩]
          have e3 : ((c - 97) % 256 + 10) % 256 = c - 87 := by omega
          rw [e, decide_eq_false a2, if_pos (show 0 ≤ c - 87 by omega)]
          simp [pct_digit.j0, pct_digit.j1, a3, a4, e3]
        · have e : hd c = -1 := by unfold hd; rw [if_neg (by omega), if_neg (by omega), if_neg (by omega)]
          have a6 : ¬ c ≤ 70 := by omega
          rw [e, decide_eq_false a2, if_neg (by omega)]
          simp [pct_digit.j0, pct_digit.j1, a3, a4, a6]
      · by_cases a5 : 65 ≤ c
        · by_cases a6 : c ≤ 70
          · have e : hd c = c - 55 := by unfold hd; rw [if_neg (by omega), if_neg (by omega), if_pos ⟨a5, a6⟩]
            have e3 : ((c - 65) % 256 + 10) % 256 = c - 55 := by omega
            rw [e, decide_eq_false a2, if_pos (show 0 ≤ c - 55 by omega)]
            simp [pct_digit.j0, pct_digit.j1, a3, a5, a6, e3]
          · have e : hd c = -1 := by unfold hd; rw [if_neg (by omega), if_neg (by omega), if_neg (by omega)]
            rw [e, decide_eq_false a2, if_neg (by omega)]
            simp [pct_digit.j0, pct_digit.j1, a3, a5, a6]
        · have e : hd c = -1 := by unfold hd; rw [if_neg (by omega), if_neg (by omega), if_neg (by omega)]
          rw [e, decide_eq_false a2, if_neg (by omega)]
          simp [pct_digit.j0, pct_digit.j1, a3, a5]
  · have e : hd c = -1 := by unfold hd; rw [if_neg (by omega), if_neg (by omega), if_neg (by omega)]
    have a3 : ¬ 97 ≤ c := by omega
    have a5 : ¬ 65 ≤ c := by omega
    rw [if_neg (show ¬ c ≥ 48 from a1), e, if_neg (by omega)]
    simp [pct_digit.j0, pct_digit.j1, a3, a5]
theorem or_nib (h l : Int) (h0 : 0 ≤ h) (h1 : h ≤ 15) (l0 : 0 ≤ l) (l1 : l ≤ 15) : Go.bits .or .u8 ((h * 16) % 256) l = h * 16 + l := by
  obtain ⟨a, rfl⟩ : ∃ n : Nat, h = n := ⟨h.toNat, by omega⟩
  obtain ⟨b, rfl⟩ : ∃ n : Nat, l = n := ⟨l.toNat, by omega⟩
  have ha : a < 16 := by omega
  have hb : b < 16 := by omega
  clear h0 h1 l0 l1
  revert b
  revert a
  decide
theorem told_f (s : ByteArray) (k : Nat) (hk : 9 ≤ k) : ∃ v, pct_told.f k s = some (v, (tok (bs s)).isSome) ∧ ∀ x, tok (bs s) = some x → v = x := by
  obtain ⟨k, rfl⟩ : ∃ q, k = q + 1 := ⟨k - 1, by omega⟩
  unfold pct_told.f tok
  rw [bs_len, rd_bytesOf, rd_bytesOf, rd_bytesOf]
  by_cases c1 : s.size < 3
  · rw [if_pos (by omega), if_neg (by omega)]
    exact ⟨0, by simp [pct_told.j0], by simp⟩
  · rw [if_neg (by omega), if_pos (by omega)]
    by_cases c2 : bt s 0 = 37
    · simp only [pct_told.j0]
      have b1 := bt_byt s 1
      have b2 := bt_byt s 2
      rw [if_neg (by simp [c2]), if_pos (by omega), digit_f _ b1.1 b1.2 k (by omega), Option.bind_some, if_pos (by omega), digit_f _ b2.1 b2.2 k (by omega), Option.bind_some]
      have d1 := hd_le (bt s 1)
      have d2 := hd_le (bt s 2)
      by_cases c3 : 0 ≤ hd (bt s 1)
      · rw [if_pos c3]
        simp only [if_true]
        by_cases c4 : 0 ≤ hd (bt s 2)
        · rw [if_pos c4, if_pos (show 3 ≤ s.size ∧ bt s 0 = 37 ∧ 0 ≤ hd (bt s 1) ∧ 0 ≤ hd (bt s 2) from ⟨by omega, c2, c3, c4⟩)]
          simp only
          rw [or_nib _ _ c3 d1.2 c4 d2.2]
          exact ⟨_, rfl, fun x hx => by simpa using hx⟩
        · rw [if_neg c4, if_neg (show ¬ (3 ≤ s.size ∧ bt s 0 = 37 ∧ 0 ≤ hd (bt s 1) ∧ 0 ≤ hd (bt s 2)) from fun h => c4 h.2.2.2)]
          exact ⟨_, rfl, by simp⟩
      · rw [if_neg c3, if_neg (show ¬ (3 ≤ s.size ∧ bt s 0 = 37 ∧ 0 ≤ hd (bt s 1) ∧ 0 ≤ hd (bt s 2)) from fun h => c3 h.2.2.1)]
        exact ⟨_, rfl, by simp⟩
    · rw [if_neg (show ¬ (3 ≤ s.size ∧ bt s 0 = 37 ∧ 0 ≤ hd (bt s 1) ∧ 0 ≤ hd (bt s 2)) from fun h => c2 h.2.1)]
      have : (bt s 0 != 37) = true := by simpa using c2
      rw [this]
      exact ⟨0, by simp [pct_told.j0], by simp⟩
theorem bs_drop (s : ByteArray) (i : Nat) : bs (s.extract i s.size) = (bs s).drop i := by
  unfold bs Go.Proofs.YtdbihmkeljakeaaW.PrintWords.bytesOf
  rw [ByteArray.data_extract]
  simp
  refine List.take_of_length_le ?_
  rw [List.length_drop, List.length_map, Array.length_toList]
  exact Nat.le_refl _
theorem pdec_l0 (s : ByteArray) (hs : s.size ≤ 1000000) : ∀ (n i : Nat) (acc : List Int) (k : Nat), s.size ≤ i + n → acc.length ≤ i → n + 20 ≤ k → pct_Decode.l0 k s acc i = some (acc ++ pd ((bs s).drop i))
  | n, i, acc, k, hn, ha, hk => by
    obtain ⟨k, rfl⟩ : ∃ q, k = q + 1 := ⟨k - 1, by omega⟩
    simp only [pct_Decode.l0]
    by_cases c : i < s.size
    · obtain ⟨v, hv, hx⟩ := told_f (s.extract i s.size) k (by omega)
      rw [bs_drop] at hv hx
      rw [if_pos (by omega), if_pos (by omega), if_pos (by omega), Int.toNat_natCast, hv, Option.bind_some]
      obtain ⟨n, rfl⟩ : ∃ q, n = q + 1 := ⟨n - 1, by omega⟩
      cases ht : tok ((bs s).drop i) with
      | some x =>
        have hl := tok_len ht
        rw [List.length_drop, bs_len] at hl
        have e := hx x ht
        subst e
        simp only [Option.isSome_some, if_true]
        have w1 : wrap64 ((i : Int) + 2) = (i : Int) + 2 := w64 (by omega) (by omega)
        have w2 : wrap64 ((i : Int) + 2 + 1) = (i : Int) + 2 + 1 := w64 (by omega) (by omega)
        rw [if_pos (by omega), w1, w2]
        have := pdec_l0 s hs n (i + 3) (acc ++ [v]) k (by omega) (by simp; omega) (by omega)
        rw [show ((i : Int) + 2 + 1) = ((i + 3 : Nat) : Int) by omega, this, pd_some ht, List.drop_drop, List.append_assoc]
        rfl
      | none =>
        simp only [Option.isSome_none, Bool.false_eq_true, if_false]
        rw [if_pos (by omega), w64 (by omega) (by omega)]
        have := pdec_l0 s hs n (i + 1) (acc ++ [bt s (i : Int)]) k (by omega) (by simp; omega) (by omega)
        rw [show ((i : Int) + 1) = ((i + 1 : Nat) : Int) by omega, this, pd_none (by rw [List.length_drop, bs_len]; omega) ht, List.drop_drop, List.append_assoc]
        have e : rd ((bs s).drop i) 0 = bt s (i : Int) := by
          rw [bt_drop s i c]; rfl
        rw [e]
        rfl
    · rw [if_neg (by omega), List.drop_eq_nil_of_le (by rw [bs_len]; omega), pd_nil, List.append_nil]
theorem pdecode_c (s : ByteArray) (w : World) (hs : s.size ≤ 1000000) :
    Calls Try.prog 16 #[.string s] w fun e w' => ∃ v, e = .returned v ∧ Kd.R (Kd.int .u8) 5 w' w.heap.size (fun _ => True) v (pd (bs s)) ∧ Below w.heap.size w w' :=
  pct_Decode.calls (s.size + 30) s _ w (by simpa [pct_Decode.f] using pdec_l0 s hs s.size 0 [] (s.size + 30) (by omega) (by simp) (by omega))

theorem strOf_append (xs ys : List Int) : strOfNums (xs ++ ys) = strOfNums xs ++ strOfNums ys := by
  apply ByteArray.ext
  simp [strOfNums]
theorem bs_append (s t : ByteArray) : bs (s ++ t) = bs s ++ bs t := by simp [bs, Go.Proofs.YtdbihmkeljakeaaW.PrintWords.bytesOf]
theorem strOf_size (xs : List Int) : (strOfNums xs).size = xs.length := by simp [strOfNums, ByteArray.size]

theorem bs_str {xs : List Int} (h : Byt xs) : bs (strOfNums xs) = xs := by
  unfold bs Go.Proofs.YtdbihmkeljakeaaW.PrintWords.bytesOf strOfNums
  simp only [List.map_map]
  conv => rhs; rw [← List.map_id xs]
  refine List.map_congr_left fun x hx => ?_
  have := h x hx
  simp only [Function.comp, UInt8.toNat_ofNat', id]
  omega
theorem tok_ne {xs : List Int} (h : rd xs 0 ≠ 37) : tok xs = none := by unfold tok; rw [if_neg (fun hh => h hh.2.1)]
theorem pd_ne {c : Int} (h : c ≠ 37) (t : List Int) : pd (c :: t) = c :: pd t := pd_none (by simp) (tok_ne (by simpa [rd] using h))

theorem aw_enc : pe 4 (uDec (bs ⟨#[97, 32, 98, 195, 169]⟩)) = [97, 37, 50, 48, 98, 37, 67, 51, 37, 65, 57] := by
  have e0 : bs ⟨#[97, 32, 98, 195, 169]⟩ = [97, 32, 98, 195, 169] := by decide
  have e : uDec [97, 32, 98, 195, 169] = [97, 32, 98, 233] := by
    rw [decode_step (by simp), decode_step (by simp [uNext, uLead, uTail]), decode_step (by simp [uNext, uLead, uTail]), decode_step (by simp [uNext, uLead, uTail])]; simp [uNext, uLead, uTail, decode_nil]
  rw [e0, e]
  decide
theorem aw_dec : pd (bs ⟨#[47, 97, 37, 50, 70, 37, 122, 122]⟩) = [47, 97, 47, 37, 122, 122] := by decide
theorem pdecode_f (s : ByteArray) (hs : s.size ≤ 1000000) (k : Nat) (hk : s.size + 20 ≤ k) : pct_Decode.f k s = some (pd (bs s)) := by
  have := pdec_l0 s hs s.size 0 [] k (by omega) (by simp) hk
  simpa [pct_Decode.f] using this
theorem awake_f (k : Nat) (hk : 40 ≤ k) : gossamerlaw4_awake.f k = some true := by
  have a1 : ByteArray.size ⟨#[47, 97, 37, 50, 70, 37, 122, 122]⟩ = 8 := rfl
  unfold gossamerlaw4_awake.f
  simp only [pct_Encode.f, pct_In.f]
  rw [if_pos (by decide), Option.bind_some, aw_enc, if_pos (by rw [strOfNums_toList]; decide), pdecode_f _ (by rw [a1]; omega) k (by rw [a1]; omega), Option.bind_some, aw_dec, if_pos (by rw [strOfNums_toList]; decide)]
  decide

/-- The hex digits, great or small. -/
def DG (g : Bool) : ByteArray := if g = true then ⟨#[48, 49, 50, 51, 52, 53, 54, 55, 56, 57, 65, 66, 67, 68, 69, 70]⟩ else ⟨#[48, 49, 50, 51, 52, 53, 54, 55, 56, 57, 97, 98, 99, 100, 101, 102]⟩
def hexB (g : Bool) (c : Int) : List Int := [37, bt (DG g) (c / 16), bt (DG g) (c % 16)]
def pbs (gs : List Bool) : Nat → List Int → List Int
  | _, [] => []
  | i, c :: cs => hexB (gs.getD i false) c ++ pbs gs (i + 1) cs
theorem pbs_take (gs : List Bool) : ∀ (xs : List Int) (i k : Nat), k < xs.length → pbs gs i (xs.take (k + 1)) = pbs gs i (xs.take k) ++ hexB (gs.getD (i + k) false) (rd xs (k : Int))
  | [], _, _, h => by simp at h
  | c :: cs, i, 0, _ => by simp [pbs, rd]
  | c :: cs, i, k + 1, h => by
    have := pbs_take gs cs (i + 1) k (by simpa using h)
    have e : rd (c :: cs) ((k + 1 : Nat) : Int) = rd cs (k : Int) := by unfold rd; simp
    rw [List.take_succ_cons, List.take_succ_cons, pbs, pbs, this, e, List.append_assoc, show i + 1 + k = i + (k + 1) by omega]
theorem pbs_len (gs : List Bool) : ∀ (xs : List Int) (i : Nat), (pbs gs i xs).length = 3 * xs.length
  | [], _ => rfl
  | c :: cs, i => by rw [pbs, List.length_append, pbs_len gs cs (i + 1), List.length_cons]; simp [hexB]; omega
theorem hexB_hd (g : Bool) (v : Int) (h0 : 0 ≤ v) (h1 : v < 16) : hd (bt (DG g) v) = v := by
  obtain ⟨n, rfl⟩ : ∃ n : Nat, v = n := ⟨v.toNat, by omega⟩
  have hn : n < 16 := by omega
  clear h0 h1
  cases g <;> (revert n; decide)
theorem pd_hexB (g : Bool) (c : Int) (h0 : 0 ≤ c) (h1 : c < 256) (t : List Int) : pd (hexB g c ++ t) = c :: pd t := by
  have e : tok (hexB g c ++ t) = some c := by
    unfold tok
    have e1 : rd (hexB g c ++ t) 0 = 37 := rfl
    have e2 : rd (hexB g c ++ t) 1 = bt (DG g) (c / 16) := rfl
    have e3 : rd (hexB g c ++ t) 2 = bt (DG g) (c % 16) := rfl
    rw [e1, e2, e3, hexB_hd g _ (by omega) (by omega), hexB_hd g _ (by omega) (by omega), if_pos ⟨by simp [hexB], rfl, by omega, by omega⟩]
    congr 1; omega
  rw [pd_some e]
  rfl
theorem pd_pbs (gs : List Bool) : ∀ (xs : List Int) (i : Nat), Byt xs → pd (pbs gs i xs) = xs
  | [], _, _ => rfl
  | c :: cs, i, hb => by rw [pbs, pd_hexB _ c hb.head.1 hb.head.2, pd_pbs gs cs (i + 1) hb.tail]
theorem dg_cut (g : Bool) (v : Int) (h0 : 0 ≤ v) (h1 : v < 16) : (DG g).extract v.toNat (v + 1).toNat = strOfNums [bt (DG g) v] := by
  obtain ⟨n, rfl⟩ : ∃ n : Nat, v = n := ⟨v.toNat, by omega⟩
  have hn : n < 16 := by omega
  clear h0 h1
  cases g <;> (revert n; decide)
theorem hexB_byt (g : Bool) (c : Int) : Byt (hexB g c) := by
  intro x hx
  simp only [hexB, List.mem_cons, List.not_mem_nil, or_false] at hx
  rcases hx with rfl | rfl | rfl
  · omega
  · exact bt_byt _ _
  · exact bt_byt _ _
theorem pbs_byt (gs : List Bool) : ∀ (xs : List Int) (i : Nat), Byt (pbs gs i xs)
  | [], _ => fun x hx => by simp [pbs] at hx
  | c :: cs, i => by rw [pbs]; exact (hexB_byt _ c).append (pbs_byt gs cs (i + 1))
theorem new_text (g : Bool) (xs : List Int) (c : Int) (h0 : 0 ≤ c) (h1 : c < 256) :
    strOfNums xs ++ (⟨#[37]⟩ : ByteArray) ++ (DG g).extract (c / 16).toNat (c / 16 + 1).toNat ++ (DG g).extract (c % 16).toNat (c % 16 + 1).toNat = strOfNums (xs ++ hexB g c) := by
  rw [dg_cut g _ (by omega) (by omega), dg_cut g _ (by omega) (by omega), show (⟨#[37]⟩ : ByteArray) = strOfNums [37] from rfl, ← strOf_append, ← strOf_append, ← strOf_append, List.append_assoc, List.append_assoc]
  rfl
set_option maxHeartbeats 4000000 in
theorem core_PctBytes (A0 : Option Addr) (c0 : Nat) (xs : List Int) (A1 : Option Addr) (c1 : Nat) (gs : List Bool) (w : World) (hC0 : Kd.C (Kd.int .u8) w A0 xs.length xs) (h0 : xs.length ≤ c0) (hw0 : ∀ n ∈ xs, (Lit.int .u8 n).wf = true) (hC1 : Kd.C Kd.bool w A1 gs.length gs) (h1 : gs.length ≤ c1) :
    Calls Try.prog 7 #[.slice A0 xs.length c0, .slice A1 gs.length c1] w fun e w' => e = .returned (.bool true) ∧ Below w.heap.size w w' := by
  have hb := Byt.of_wf hw0
  clear hw0
  have aw := fun w => gossamerlaw4_awake.calls 50 true w (awake_f 50 (by omega))
  have aw := Lib.hid aw
  by_cases c1 : 60 < xs.length
  · have d1 : decide (60 < (xs.length : Int)) = true := decide_eq_true (by omega)
    go_enter Try.func7, Try.ntmps7
    go_wp2_with fail
    refine (aw.out w).mono ?_
    rintro e w1 ⟨rfl, hb⟩
    go_wp2_with fail
    go_ret
    exact ⟨rfl, hb⟩
  have d1 : decide (60 < (xs.length : Int)) = false := decide_eq_false (by omega)
  have hl : xs.length ≤ 60 := by omega
  clear c1
  go_enter Try.func7, Try.ntmps7
  go_wp2_with fail
  have hB0 := Aside0.mk (Below.refl w.heap.size w)
  go_loopw [5, 6] (fun s i W => ∃ k : Nat, k ≤ xs.length ∧ i = .int .i64 k ∧ s = .string (strOfNums (pbs gs 0 (xs.take k))) ∧ Aside0 (Below w.heap.size w W)) (fun _ i _ => xs.length - (RowKit.intOf i).toNat)
  case atStart => exact ⟨0, Nat.zero_le _, rfl, rfl, hB0⟩
  case round =>
    clear hB0
    obtain ⟨w', hw'⟩ : ∃ x, x = wr := ⟨_, rfl⟩
    subst hw'
    obtain ⟨k, hk, rfl, rfl, hB⟩ := hrel
    by_cases hlt : k < xs.length
    · have hsn := pbs_take gs xs 0 k hlt
      rw [Nat.zero_add] at hsn
      obtain ⟨ad, hA, hcell⟩ := Kd.at_int (Kd.C_below hC0 hB.out) (k : Int) (by omega) (by omega)
      rw [Int.toNat_natCast] at hcell
      cases hA
      have hby := rd_byt hb k hlt
      have hps := pbs_len gs (xs.take k) 0
      have hpl : (xs.take k).length ≤ 60 := by rw [List.length_take]; omega
      have z1 : (strOfNums (pbs gs 0 (xs.take k))).size ≤ 200 := by rw [strOf_size]; omega
      clear hps hpl
      have hnt := fun g => new_text g (pbs gs 0 (xs.take k)) (rd xs (k : Int)) hby.1 hby.2
      generalize hrr : rd xs (k : Int) = c at *
      generalize pbs gs 0 (xs.take k) = ps at *
      have dlt : decide ((k : Int) < (xs.length : Int)) = true := decide_eq_true (by omega)
      have e1 : 0 ≤ c / 16 := by omega
      have e2 : c / 16 ≤ 15 := by omega
      have e3 : 0 ≤ c % 16 := by omega
      have e4 : c % 16 ≤ 15 := by omega
      have hsn := Lib.hid hsn
      have hnt := Lib.hid hnt
      have hrr := Lib.hid hrr
      have hk63 : (k : Int) + 1 < 9223372036854775807 := by omega
      by_cases cg : k < gs.length
      · have dg1 : decide ((k : Int) < (gs.length : Int)) = true := decide_eq_true (by omega)
        obtain ⟨ad1, hA1, hcell1⟩ := Kd.at_bool (Kd.C_below hC1 hB.out) (k : Int) (by omega) (by omega)
        rw [Int.toNat_natCast] at hcell1
        cases hA1
        cases hgk : rdOf false gs (k : Int) with
        | true =>
          rw [hgk] at hcell1
          have hgd : gs.getD k false = true := by unfold rdOf at hgk; simpa using hgk
          have hgd := Lib.hid hgd
          clear hgk
          obtain ⟨hb0, hb1⟩ := hby
          have i0 : (0 : Int) ≤ (k : Int) := by omega
          have i1 : (k : Int) < (xs.length : Int) := by omega
          have y1 : c / 16 ≤ c / 16 + 1 := by omega
          have y2 : c / 16 + 1 ≤ 16 := by omega
          have y3 : c % 16 ≤ c % 16 + 1 := by omega
          have y4 : c % 16 + 1 ≤ 16 := by omega
          have x1 : IntKind.u8.wrap (c / 16 + 1) = c / 16 + 1 := by simp only [IntKind.wrap, IntKind.bits, IntKind.signed]; simp; omega
          have x2 : IntKind.u8.wrap (c % 16 + 1) = c % 16 + 1 := by simp only [IntKind.wrap, IntKind.bits, IntKind.signed]; simp; omega
          go_wp2_with fail
          go_quiet (fail)
          go_wp2
          go_roundw
          case rel => exact ⟨k + 1, by omega, by go_num, by rw [hsn.out, hgd.out]; exact congrArg Value.string (hnt.out true), by first | exact hB | exact Aside0.mk (pw_below_drewN hB.out _)⟩
          case measure => simp [RowKit.intOf]; omega
        | false =>
          rw [hgk] at hcell1
          have hgd : gs.getD k false = false := by unfold rdOf at hgk; simpa using hgk
          have hgd := Lib.hid hgd
          clear hgk
          obtain ⟨hb0, hb1⟩ := hby
          have i0 : (0 : Int) ≤ (k : Int) := by omega
          have i1 : (k : Int) < (xs.length : Int) := by omega
          have y1 : c / 16 ≤ c / 16 + 1 := by omega
          have y2 : c / 16 + 1 ≤ 16 := by omega
          have y3 : c % 16 ≤ c % 16 + 1 := by omega
          have y4 : c % 16 + 1 ≤ 16 := by omega
          have x1 : IntKind.u8.wrap (c / 16 + 1) = c / 16 + 1 := by simp only [IntKind.wrap, IntKind.bits, IntKind.signed]; simp; omega
          have x2 : IntKind.u8.wrap (c % 16 + 1) = c % 16 + 1 := by simp only [IntKind.wrap, IntKind.bits, IntKind.signed]; simp; omega
          go_wp2_with fail
          go_quiet (fail)
          go_wp2
          go_roundw
          case rel => exact ⟨k + 1, by omega, by go_num, by rw [hsn.out, hgd.out]; exact congrArg Value.string (hnt.out false), by first | exact hB | exact Aside0.mk (pw_below_drewN hB.out _)⟩
          case measure => simp [RowKit.intOf]; omega
      · have dg1 : decide ((k : Int) < (gs.length : Int)) = false := decide_eq_false (by omega)
        have hgd : gs.getD k false = false := by rw [List.getD_eq_getElem?_getD, List.getElem?_eq_none (by omega)]; rfl
        have hgd := Lib.hid hgd
        obtain ⟨hb0, hb1⟩ := hby
        have i0 : (0 : Int) ≤ (k : Int) := by omega
        have i1 : (k : Int) < (xs.length : Int) := by omega
        have y1 : c / 16 ≤ c / 16 + 1 := by omega
        have y2 : c / 16 + 1 ≤ 16 := by omega
        have y3 : c % 16 ≤ c % 16 + 1 := by omega
        have y4 : c % 16 + 1 ≤ 16 := by omega
        have x1 : IntKind.u8.wrap (c / 16 + 1) = c / 16 + 1 := by simp only [IntKind.wrap, IntKind.bits, IntKind.signed]; simp; omega
        have x2 : IntKind.u8.wrap (c % 16 + 1) = c % 16 + 1 := by simp only [IntKind.wrap, IntKind.bits, IntKind.signed]; simp; omega
        go_wp2_with fail
        go_quiet (fail)
        go_wp2
        go_roundw
        case rel => exact ⟨k + 1, by omega, by go_num, by rw [hsn.out, hgd.out]; exact congrArg Value.string (hnt.out false), by first | exact hB | exact Aside0.mk (pw_below_drewN hB.out _)⟩
        case measure => simp [RowKit.intOf]; omega
    · obtain rfl : k = xs.length := by omega
      have ht : xs.take xs.length = xs := List.take_length
      have hpl := pbs_len gs xs 0
      have z1 : (strOfNums (pbs gs 0 xs)).size ≤ 200 := by rw [strOf_size]; omega
      have kD := fun w => pdecode_c (strOfNums (pbs gs 0 xs)) w (by omega)
      have hpd : pd (bs (strOfNums (pbs gs 0 xs))) = xs := by rw [bs_str (pbs_byt gs xs 0)]; exact pd_pbs gs xs 0 hb
      rw [hpd] at kD
      have dlt : decide ((xs.length : Int) < (xs.length : Int)) = false := decide_eq_false (by omega)
      rw [ht]
      have ht := 0
      generalize strOfNums (pbs gs 0 xs) = t at *
      have kD := Lib.hid kD
      clear hpl hpd
      have g0 := Kd.C_string (c := c0) Try.underlying27 Try.underlying5 Try.underlying9 (Kd.C_drew (Kd.C_below hC0 hB.out))
      go_wp2_with fail
      go_region_with (first
        | (go_at_call 16; refine (kD.out _).mono ?_; rintro e w2 ⟨vv, rfl, hr, h2⟩; obtain ⟨AD, cD, rfl, -, hD⟩ := Kd.R_reads hr; have hB2 : Below w.heap.size w w2 := (by first | exact below_step hB.out h2 | exact below_step (below_drew1 hB.out) h2); have hC0' := Kd.C_below hC0 hB2; have fD := Kd.C_string (c := cD) Try.underlying27 Try.underlying5 Try.underlying9 hD; have f0 := Kd.C_string (c := c0) Try.underlying27 Try.underlying5 Try.underlying9 hC0')
        | (go_at_call 13; refine (aw.out _).mono ?_; rintro e w3 ⟨rfl, h3⟩; have hB3 : Below w.heap.size w w3 := (by first | exact below_step hB2 h3 | exact below_step (below_drew1 hB2) h3)))
      all_goals (go_wp2; go_ret; exact ⟨rfl, hB3⟩)

end Go.Proofs.Ytdbihmkeljakeaa.LinkPct
