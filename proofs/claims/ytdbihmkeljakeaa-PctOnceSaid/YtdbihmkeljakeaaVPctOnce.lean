/- The law PctOnce: its walk. -/
import Derived.Test.YtdbihmkeljakeaaLPctTells
import Derived.Test.YtdbihmkeljakeaaLPctB
import Derived.Test.YtdbihmkeljakeaaLPctC
import Derived.Test.YtdbihmkeljakeaaLPctD
import Derived.Test.YtdbihmkeljakeaaSh
import Derived.Lib.Hide
import Derived.Test.YtdbihmkeljakeaaPPctTellsx1
import Derived.Test.YtdbihmkeljakeaaPPctTellsx5
namespace Go.Proofs.Ytdbihmkeljakeaa.LinkPctTells
open Go Go.RowKit Go.Proofs.Ytdbihmkeljakeaa Go.Proofs.Ytdbihmkeljakeaa.PPctTells Go.Proofs.YtdbihmkeljakeaaW.PrintWords Go.Proofs.YtdbihmkeljakeaaW.PrintLast Go.Proofs.YtdbihmkeljakeaaW.PrintMore Go.Proofs.Ytdbihmkeljakeaa.Utf Go.Lib
set_option linter.unusedVariables false
set_option linter.unusedSimpArgs false
set_option maxRecDepth 100000
theorem bs_str {xs : List Int} (h : Byt xs) : bs (strOfNums xs) = xs := by
  unfold bs Go.Proofs.YtdbihmkeljakeaaW.PrintWords.bytesOf strOfNums
  simp only [List.map_map]
  conv => rhs; rw [← List.map_id xs]
  refine List.map_congr_left fun x hx => ?_
  have := h x hx
  simp only [Function.comp, UInt8.toNat_ofNat', id]
  omega
theorem tok_ne {xs : List Int} (h : rd xs 0 ≠ 37) : tok xs = none := by unfold tok; rw [if_neg (fun hh => h hh.2.1)]
theorem pd_ne {c : Int} (h : c ≠ 37) (t : List Int) : pd (c :: t) = c :: pd t := pd_none (by simp) (tok_ne (by simpa [rd] using h))

theorem bt_hx (v : Int) (h0 : 0 ≤ v) (h1 : v < 16) : hd (bt HX v) = v := by
  obtain ⟨n, rfl⟩ : ∃ n : Nat, v = n := ⟨v.toNat, by omega⟩
  have : n < 16 := by omega
  clear h0 h1
  revert n
  decide
theorem tok_hex (c : Int) (h0 : 0 ≤ c) (h1 : c < 256) (t : List Int) : tok (hexE c ++ t) = some c := by
  have e1 := bt_hx (c / 16) (by omega) (by omega)
  have e2 := bt_hx (c % 16) (by omega) (by omega)
  have a0 : rd (hexE c ++ t) 0 = 37 := rfl
  have a1 : rd (hexE c ++ t) 1 = bt HX (c / 16) := rfl
  have a2 : rd (hexE c ++ t) 2 = bt HX (c % 16) := rfl
  unfold tok
  rw [a0, a1, a2, e1, e2, if_pos ⟨by simp [hexE], rfl, by omega, by omega⟩]
  congr 1
  omega
theorem pd_hex (c : Int) (h0 : 0 ≤ c) (h1 : c < 256) (t : List Int) : pd (hexE c ++ t) = c :: pd t := by
  rw [pd_some (tok_hex c h0 h1 t)]
  rfl
theorem pd_hexs : ∀ (cs t : List Int), Byt cs → pd (cs.flatMap hexE ++ t) = cs ++ pd t
  | [], t, _ => rfl
  | c :: cs, t, h => by
    rw [List.flatMap_cons, List.append_assoc, pd_hex c h.head.1 h.head.2, pd_hexs cs t h.tail]
    rfl
theorem enc1 (r : Int) (h0 : 0 ≤ r) (h1 : r < 128) : uEnc [r] = [r] := by
  have e : uFix r = r := by unfold uFix; rw [if_neg (by omega), if_neg (by omega), if_neg (by omega)]
  rw [encode_cons, encode_nil, List.append_nil, e]
  unfold uPt
  rw [if_pos (by omega)]
theorem pin6 (r : Int) (h0 : 0 ≤ r) (h1 : r ≤ 1114111) (h : pin 6 r = false) : 32 ≤ r ∧ r ≤ 126 ∧ r ≠ 37 := by
  unfold pin at h
  rw [if_neg (by omega)] at h
  split at h
  · cases h
  · refine ⟨by omega, by omega, ?_⟩
    rintro rfl
    revert h
    decide
theorem pd_ph (r : Int) (h : Scal r) (t : List Int) : pd (ph 6 r ++ t) = uEnc [r] ++ pd t := by
  unfold ph
  have hs := h
  unfold Scal at hs
  split
  · exact pd_hexs _ t (encode_byt _)
  · rename_i hp
    have hp : pin 6 r = false := by simpa using hp
    have h3 := pin6 r (by omega) (by omega) hp
    rw [enc1 r (by omega) (by omega)]
    exact pd_ne h3.2.2 t
theorem pd_pe : ∀ (rs : List Int), (∀ r ∈ rs, Scal r) → pd (pe 6 rs) = uEnc rs
  | [], _ => rfl
  | r :: rs, h => by
    unfold pe
    rw [List.flatMap_cons, pd_ph r (h r (List.mem_cons_self ..))]
    have := pd_pe rs (fun x hx => h x (List.mem_cons_of_mem _ hx))
    unfold pe at this
    rw [this]
    rw [encode_cons r rs, encode_cons r [], encode_nil, List.append_nil]
theorem strOf_bs (s : ByteArray) : strOfNums (bs s) = s := by
  unfold strOfNums bs Go.Proofs.YtdbihmkeljakeaaW.PrintWords.bytesOf
  rw [List.map_map]
  have : s.data.toList.map ((fun n : Int => UInt8.ofNat n.toNat) ∘ fun b => (b.toNat : Int)) = s.data.toList := by
    conv => rhs; rw [← List.map_id s.data.toList]
    refine List.map_congr_left fun x _ => ?_
    simp
  rw [this]
theorem pback (s : ByteArray) (h : uValid (bs s) = true) : pd (bs (strOfNums (pe 6 (uDec (bs s))))) = bs s := by
  rw [bs_str (pe_byt _ _), pd_pe _ (decode_scal (bs_byt s) h), encode_decode' (bs_byt s) h]

/-- Told by a set without %: ASCII, and nothing of the set. -/
def Low6 (k x : Int) : Prop := 32 ≤ x ∧ x ≤ 126 ∧ pin k x = false
theorem low_hex (k v : Int) (k0 : 0 ≤ k) (k1 : k < 6) (h0 : 0 ≤ v) (h1 : v < 16) : Low6 k (bt HX v) := by
  obtain ⟨n, rfl⟩ : ∃ n : Nat, v = n := ⟨v.toNat, by omega⟩
  obtain ⟨m, rfl⟩ : ∃ n : Nat, k = n := ⟨k.toNat, by omega⟩
  have a1 : n < 16 := by omega
  have a2 : m < 6 := by omega
  clear k0 k1 h0 h1
  unfold Low6
  revert m
  revert n
  decide
theorem low_pct (k : Int) (k0 : 0 ≤ k) (k1 : k < 6) : Low6 k 37 := by
  obtain ⟨m, rfl⟩ : ∃ n : Nat, k = n := ⟨k.toNat, by omega⟩
  have a2 : m < 6 := by omega
  clear k0 k1
  unfold Low6
  revert m
  decide
theorem low_ph (k r : Int) (k0 : 0 ≤ k) (k1 : k < 6) (h : Scal r) : ∀ x ∈ ph k r, Low6 k x := by
  unfold Scal at h
  unfold ph
  split
  · intro x hx
    obtain ⟨c, hc, hx⟩ := List.mem_flatMap.1 hx
    have hb := encode_byt [r] c hc
    unfold hexE at hx
    simp only [List.mem_cons, List.not_mem_nil, or_false] at hx
    obtain rfl | rfl | rfl := hx
    · exact low_pct k k0 k1
    · exact low_hex k _ k0 k1 (by omega) (by omega)
    · exact low_hex k _ k0 k1 (by omega) (by omega)
  · rename_i hp
    have hp : pin k r = false := by simpa using hp
    have hr : 32 ≤ r ∧ r ≤ 126 := by
      unfold pin at hp
      rw [if_neg (by omega)] at hp
      split at hp
      · cases hp
      · omega
    rw [enc1 r (by omega) (by omega)]
    intro x hx
    simp only [List.mem_singleton] at hx
    subst hx
    exact ⟨hr.1, hr.2, hp⟩
theorem low_pe (k : Int) (k0 : 0 ≤ k) (k1 : k < 6) (rs : List Int) (h : ∀ r ∈ rs, Scal r) : ∀ x ∈ pe k rs, Low6 k x := fun x hx => by
  obtain ⟨r, hr, hx⟩ := List.mem_flatMap.1 hx
  exact low_ph k r k0 k1 (h r hr) x hx
theorem enc_asc : ∀ (xs : List Int), (∀ x ∈ xs, 0 ≤ x ∧ x < 128) → uEnc xs = xs
  | [], _ => rfl
  | x :: xs, h => by
    have hx := h x (List.mem_cons_self ..)
    have e1 := enc1 x hx.1 hx.2
    rw [encode_cons, encode_nil, List.append_nil] at e1
    rw [encode_cons, e1, enc_asc xs (fun y hy => h y (List.mem_cons_of_mem _ hy))]
    rfl
theorem pe_low (k : Int) : ∀ (xs : List Int), (∀ x ∈ xs, Low6 k x) → pe k xs = xs
  | [], _ => rfl
  | x :: xs, h => by
    have hx := h x (List.mem_cons_self ..)
    have e := pe_low k xs (fun y hy => h y (List.mem_cons_of_mem _ hy))
    unfold pe at *
    rw [List.flatMap_cons, e]
    unfold ph
    rw [if_neg (by rw [hx.2.2]; simp), enc1 x (by have := hx.1; omega) (by have := hx.2.1; omega)]
    rfl
theorem ph_pos (k r : Int) : 1 ≤ (ph k r).length := by
  have h1 : 1 ≤ (uEnc [r]).length := by rw [encode_cons, encode_nil, List.append_nil]; exact enc_len.1
  unfold ph
  split
  · cases he : uEnc [r] with
    | nil => rw [he] at h1; simp at h1
    | cons c cs => simp [hexE]
  · exact h1
theorem pe_pos (k : Int) : ∀ (rs : List Int), rs.length ≤ (pe k rs).length
  | [] => by simp
  | r :: rs => by
    have := pe_pos k rs
    unfold pe at *
    rw [List.flatMap_cons, List.length_append, List.length_cons]
    have := ph_pos k r
    omega

theorem rdecode_c (A : Option Addr) (c : Nat) (xs : List Int) (w : World) (hC : Kd.C (Kd.int .u8) w A xs.length xs) (hc : xs.length ≤ c) (hb : Byt xs) (hl : xs.length ≤ 1000000) :
    Calls Try.prog 19 #[.slice A xs.length c] w fun e w' => ∃ v, e = .returned v ∧ Kd.R (Kd.int .i32) 21 w' w.heap.size (fun _ => True) v (uDec xs) ∧ Below w.heap.size w w' :=
  gossamerref1_Decode.calls (xs.length + 9) A c xs _ w hC hc (rdecode_ok xs hb (by omega) _ (by omega))

/-- A number, from 0 to below n. -/
def uLow (x n : Int) : Int := (x % 18446744073709551616) % n
theorem uLow_b (x n : Int) (h : 0 < n) : 0 ≤ uLow x n ∧ uLow x n < n := by
  unfold uLow
  exact ⟨Int.emod_nonneg _ (by omega), Int.emod_lt_of_pos _ h⟩
theorem low_f (x n : Int) (h : 0 < n) (h1 : n < 4611686018427387904) : gossamerlaw0_Low.f x n = some (uLow x n) := by
  have e1 : IntKind.u64.wrap n = n := by simp only [IntKind.wrap, IntKind.bits, IntKind.signed]; simp; omega
  have e2 : IntKind.u64.wrap x = x % 18446744073709551616 := by simp [IntKind.wrap, IntKind.bits, IntKind.signed]
  have hb := uLow_b x n h
  unfold gossamerlaw0_Low.f
  rw [e1, e2, if_neg (by omega), Int.tmod_eq_emod_of_nonneg (Int.emod_nonneg _ (by omega))]
  show some (wrap64 (uLow x n)) = _
  rw [w64 (by omega) (by omega)]
theorem low_c (x n : Int) (w : World) (h : 0 < n) (h1 : n < 4611686018427387904) :
    Calls Try.prog 10 #[.int .i64 x, .int .i64 n] w fun e w' => e = .returned (.int .i64 (uLow x n)) ∧ Below w.heap.size w w' :=
  (gossamerlaw0_Low.calls x n _ w (low_f x n h h1)).mono fun e w' h => ⟨h.1, h.2.below⟩

theorem once_again (k : Int) (k0 : 0 ≤ k) (k1 : k < 6) (s : ByteArray) : strOfNums (pe k (uDec (bs (strOfNums (pe k (uDec (bs s))))))) = strOfNums (pe k (uDec (bs s))) := by
  have hl := low_pe k k0 k1 (uDec (bs s)) (decode_scals (bs_byt s))
  rw [bs_str (pe_byt _ _)]
  generalize pe k (uDec (bs s)) = xs at *
  have ha : ∀ x ∈ xs, 0 ≤ x ∧ x < 128 := fun x hx => by have := hl x hx; unfold Low6 at this; omega
  have e : uDec xs = xs := by
    have h1 := decode_encode' xs
    rw [enc_asc xs ha] at h1
    rw [h1]
    conv => rhs; rw [← List.map_id xs]
    refine List.map_congr_left fun x hx => ?_
    have := ha x hx
    unfold uFix
    rw [if_neg (by omega), if_neg (by omega), if_neg (by omega)]
    rfl
  rw [e, pe_low k xs hl]
set_option maxHeartbeats 4000000 in
theorem core_PctOnce (s : ByteArray) (n : Int) (w : World) (hs : s.size ≤ 140737488351232) (wn : (Lit.int .i64 n).wf = true) :
    Calls Try.prog 6 #[.string s, .int .i64 n] w fun e w' => e = .returned (.bool true) ∧ Below w.heap.size w w' := by
  have aw := fun w => awake_true w
  have aw := Lib.hid aw
  clear wn
  by_cases c1 : 200 < s.size
  · have d1 : decide (200 < (s.size : Int)) = true := decide_eq_true (by omega)
    go_enter Try.func6, Try.ntmps6
    go_wp2_with fail
    refine (aw.out w).mono ?_
    rintro e w1 ⟨rfl, hb⟩
    go_wp2_with fail
    go_ret
    exact ⟨rfl, hb⟩
  have d1 : decide (200 < (s.size : Int)) = false := decide_eq_false (by omega)
  have kc := fun (w : World) (s : ByteArray) => print_bytes (P := Try.prog) 9 27 5 Try.underlying9 Try.underlying27 Try.underlying5 s w
  have hl := bs_len s
  have l1 := low_c n 6 w (by omega) (by omega)
  have b1 := uLow_b n 6 (by omega)
  generalize uLow n 6 = m at *
  have hsm : s.size ≤ 200 := by omega
  have kE := fun w => pencode_c s m w (by omega)
  have hlow := low_pe m b1.1 b1.2 (uDec (bs s)) (decode_scals (bs_byt s))
  have hon := once_again m b1.1 b1.2 s
  have hpos := pe_pos m (uDec (bs s))
  have hln := pe_len m (uDec (bs s))
  have hdl := bs_dec s
  have hsz : (strOfNums (pe m (uDec (bs s)))).size = (pe m (uDec (bs s))).length := by simp [strOfNums, ByteArray.size]
  have hbs : bs (strOfNums (pe m (uDec (bs s)))) = pe m (uDec (bs s)) := bs_str (pe_byt _ _)
  have kF := fun w => pencode_c (strOfNums (pe m (uDec (bs s)))) m w (by omega)
  rw [hon] at kF
  clear hon
  have hchr : ∀ k : Nat, k < (strOfNums (pe m (uDec (bs s)))).size → pin m (bt (strOfNums (pe m (uDec (bs s)))) (k : Int)) = false := fun k hk => by
    have hd := bt_drop _ k hk
    have hm : bt (strOfNums (pe m (uDec (bs s)))) (k : Int) ∈ bs (strOfNums (pe m (uDec (bs s)))) := List.mem_of_mem_drop (i := k) (by rw [hd]; exact List.mem_cons_self ..)
    rw [hbs] at hm
    exact (hlow _ hm).2.2
  generalize strOfNums (pe m (uDec (bs s))) = t at *
  have kd := fun (w : World) => rdecode_c (some ⟨w.heap.size, 0, none⟩) (grownCap w s.size 0 5) (bs s) (bytesWorld w 5 s) (bs_C w s (by omega)) (by rw [hl]; exact grownCap_ge _ _ _ _) (bs_byt s) (by omega)
  simp only [hl] at kd
  have hge : (uDec (bs s)).length ≤ t.size := by omega
  have htz : t.size ≤ 1000000 := by omega
  clear hlow hpos hln hdl hsz hbs
  generalize hds : uDec (bs s) = ds at *
  have l1 := Lib.hid l1
  have kE := Lib.hid kE
  have kF := Lib.hid kF
  have kd := Lib.hid kd
  have hchr := Lib.hid hchr
  have hl := Lib.hid hl
  have hds := Lib.hid hds
  go_enter Try.func6, Try.ntmps6
  go_wp2_with fail
  refine l1.out.mono ?_
  rintro e w1 ⟨rfl, hb1⟩
  go_wp2_with fail
  refine (kE.out w1).mono ?_
  rintro e w2 ⟨rfl, h2⟩
  have hb2 := Aside0.mk (below_step hb1 h2)
  clear h2 hb1
  go_wp2_with fail
  go_loopw [7] (fun i W => ∃ k : Nat, k ≤ t.size ∧ i = .int .i64 k ∧ Aside0 (Below w.heap.size w W)) (fun i _ => t.size - (RowKit.intOf i).toNat)
  case atStart => exact ⟨0, Nat.zero_le _, rfl, hb2⟩
  case round =>
    clear hb2
    obtain ⟨W, hW⟩ : ∃ x, x = wr := ⟨_, rfl⟩
    subst hW
    obtain ⟨k, hk, rfl, hb⟩ := hrel
    by_cases hlt : k < t.size
    · have dlt : decide ((k : Int) < (t.size : Int)) = true := decide_eq_true (by omega)
      have hx := bt_at t (k : Int)
      simp only [Int.toNat_natCast] at hx
      have hby := bt_byt t (k : Int)
      have hp := hchr.out k hlt
      generalize bt t (k : Int) = x at *
      have ki := in_c m x W (by omega) (by omega)
      rw [hp] at ki
      clear hp
      have ki := Lib.hid ki
      go_wp2_with fail
      refine ki.out.mono ?_
      rintro e w3 ⟨rfl, h3⟩
      have hb3 := below_step hb.out h3
      clear h3 hb
      go_wp2
      exact ⟨⟨k + 1, by omega, by go_num, ⟨hb3⟩⟩, by simp [RowKit.intOf]; omega⟩
    · have dlt : decide ((k : Int) < (t.size : Int)) = false := decide_eq_false (by omega)
      have hb := hb.out
      go_wp2_with fail
      refine (kF.out W).mono ?_
      rintro e w3 ⟨rfl, h3⟩
      have hb3 := below_step hb h3
      clear h3 hb
      go_wp2_with fail
      refine (kd.out w3).mono ?_
      rintro e w4 ⟨v4, rfl, hr, h4⟩
      obtain ⟨A4, q4, rfl, -, -⟩ := Kd.R_reads hr
      have hb4 := below_step hb3 (below_step (bs_below w3 s) h4)
      clear hr h4 hb3
      go_wp2_with fail
      refine (aw.out w4).mono ?_
      rintro e w5 ⟨rfl, h5⟩
      have hb5 := below_step hb4 h5
      clear h5 hb4
      go_wp2_with fail
      go_ret
      exact ⟨rfl, hb5⟩

end Go.Proofs.Ytdbihmkeljakeaa.LinkPctTells
