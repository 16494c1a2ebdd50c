/- The law PctBack: its walk. -/
import Derived.Test.YtdbihmkeljakeaaLPctTells
import Derived.Test.YtdbihmkeljakeaaLPctB
import Derived.Test.YtdbihmkeljakeaaLPctC
import Derived.Test.YtdbihmkeljakeaaLPctD
import Derived.Test.YtdbihmkeljakeaaLPctBack
import Derived.Test.YtdbihmkeljakeaaSh
import Derived.Lib.Hide
namespace Go.Proofs.Ytdbihmkeljakeaa.LinkPctTells
open Go Go.RowKit Go.Proofs.Ytdbihmkeljakeaa Go.Proofs.Ytdbihmkeljakeaa.PPctTells Go.Proofs.YtdbihmkeljakeaaW.PrintWords Go.Proofs.YtdbihmkeljakeaaW.PrintLast Go.Proofs.YtdbihmkeljakeaaW.PrintMore Go.Proofs.Ytdbihmkeljakeaa.Utf Go.Lib
set_option linter.unusedVariables false
set_option linter.unusedSimpArgs false
set_option maxRecDepth 100000
theorem bs_str {xs : List Int} (h : Byt xs) : bs (strOfNums xs) = xs := by
  unfold bs Go.Proofs.YtdbihmkeljakeaaW.PrintWords.bytesOf strOfNums
  simp only [List.map_map]
  conv => rhs; rw [← List.map_id xs]
  refine List.map_congr_left fun x hx => ?_
  have := h x hx
  simp only [Function.comp, UInt8.toNat_ofNat', id]
  omega
theorem tok_ne {xs : List Int} (h : rd xs 0 ≠ 37) : tok xs = none := by unfold tok; rw [if_neg (fun hh => h hh.2.1)]
theorem pd_ne {c : Int} (h : c ≠ 37) (t : List Int) : pd (c :: t) = c :: pd t := pd_none (by simp) (tok_ne (by simpa [rd] using h))

theorem bt_hx (v : Int) (h0 : 0 ≤ v) (h1 : v < 16) : hd (bt HX v) = v := by
  obtain ⟨n, rfl⟩ : ∃ n : Nat, v = n := ⟨v.toNat, by omega⟩
  have : n < 16 := by omega
  clear h0 h1
  revert n
  decide
theorem tok_hex (c : Int) (h0 : 0 ≤ c) (h1 : c < 256) (t : List Int) : tok (hexE c ++ t) = some c := by
  have e1 := bt_hx (c / 16) (by omega) (by omega)
  have e2 := bt_hx (c % 16) (by omega) (by omega)
  have a0 : rd (hexE c ++ t) 0 = 37 := rfl
  have a1 : rd (hexE c ++ t) 1 = bt HX (c / 16) := rfl
  have a2 : rd (hexE c ++ t) 2 = bt HX (c % 16) := rfl
  unfold tok
  rw [a0, a1, a2, e1, e2, if_pos ⟨by simp [hexE], rfl, by omega, by omega⟩]
  congr 1
  omega
theorem pd_hex (c : Int) (h0 : 0 ≤ c) (h1 : c < 256) (t : List Int) : pd (hexE c ++ t) = c :: pd t := by
  rw [pd_some (tok_hex c h0 h1 t)]
  rfl
theorem pd_hexs : ∀ (cs t : List Int), Byt cs → pd (cs.flatMap hexE ++ t) = cs ++ pd t
  | [], t, _ => rfl
  | c :: cs, t, h => by
    rw [List.flatMap_cons, List.append_assoc, pd_hex c h.head.1 h.head.2, pd_hexs cs t h.tail]
    rfl
theorem enc1 (r : Int) (h0 : 0 ≤ r) (h1 : r < 128) : uEnc [r] = [r] := by
  have e : uFix r = r := by unfold uFix; rw [if_neg (by omega), if_neg (by omega), if_neg (by omega)]
  rw [encode_cons, encode_nil, List.append_nil, e]
  unfold uPt
  rw [if_pos (by omega)]
theorem pin6 (r : Int) (h0 : 0 ≤ r) (h1 : r ≤ 1114111) (h : pin 6 r = false) : 32 ≤ r ∧ r ≤ 126 ∧ r ≠ 37 := by
  unfold pin at h
  rw [if_neg (by omega)] at h
  split at h
  · cases h
  · refine ⟨by omega, by omega, ?_⟩
    rintro rfl
    revert h
    decide
theorem pd_ph (r : Int) (h : Scal r) (t : List Int) : pd (ph 6 r ++ t) = uEnc [r] ++ pd t := by
  unfold ph
  have hs := h
  unfold Scal at hs
  split
  · exact pd_hexs _ t (encode_byt _)
  · rename_i hp
    have hp : pin 6 r = false := by simpa using hp
    have h3 := pin6 r (by omega) (by omega) hp
    rw [enc1 r (by omega) (by omega)]
    exact pd_ne h3.2.2 t
theorem pd_pe : ∀ (rs : List Int), (∀ r ∈ rs, Scal r) → pd (pe 6 rs) = uEnc rs
  | [], _ => rfl
  | r :: rs, h => by
    unfold pe
    rw [List.flatMap_cons, pd_ph r (h r (List.mem_cons_self ..))]
    have := pd_pe rs (fun x hx => h x (List.mem_cons_of_mem _ hx))
    unfold pe at this
    rw [this]
    rw [encode_cons r rs, encode_cons r [], encode_nil, List.append_nil]
theorem strOf_bs (s : ByteArray) : strOfNums (bs s) = s := by
  unfold strOfNums bs Go.Proofs.YtdbihmkeljakeaaW.PrintWords.bytesOf
  rw [List.map_map]
  have : s.data.toList.map ((fun n : Int => UInt8.ofNat n.toNat) ∘ fun b => (b.toNat : Int)) = s.data.toList := by
    conv => rhs; rw [← List.map_id s.data.toList]
    refine List.map_congr_left fun x _ => ?_
    simp
  rw [this]
theorem pback (s : ByteArray) (h : uValid (bs s) = true) : pd (bs (strOfNums (pe 6 (uDec (bs s))))) = bs s := by
  rw [bs_str (pe_byt _ _), pd_pe _ (decode_scal (bs_byt s) h), encode_decode' (bs_byt s) h]

set_option maxHeartbeats 4000000 in
theorem core_PctBack (s : ByteArray) (w : World) (hs : s.size ≤ 140737488351232) :
    Calls Try.prog 5 #[.string s] w fun e w' => e = .returned (.bool true) ∧ Below w.heap.size w w' := by
  have aw := fun w => awake_true w
  have aw := Lib.hid aw
  by_cases c1 : 200 < s.size
  · have d1 : decide (200 < (s.size : Int)) = true := decide_eq_true (by omega)
    go_enter Try.func5, Try.ntmps5
    go_wp2_with fail
    refine (aw.out w).mono ?_
    rintro e w1 ⟨rfl, hb⟩
    go_wp2_with fail
    go_ret
    exact ⟨rfl, hb⟩
  have d1 : decide (200 < (s.size : Int)) = false := decide_eq_false (by omega)
  have kc := fun (w : World) (s : ByteArray) => print_bytes (P := Try.prog) 9 27 5 Try.underlying9 Try.underlying27 Try.underlying5 s w
  have hl := bs_len s
  have kv := Go.Proofs.Ytdbihmkeljakeaa.LinkPctBack.rvalid_c (some ⟨w.heap.size, 0, none⟩) (grownCap w s.size 0 5) (bs s) (bytesWorld w 5 s) (bs_C w s (by omega)) (by rw [hl]; exact grownCap_ge _ _ _ _) (bs_byt s) (by omega)
  rw [hl] at kv
  have hB := bs_below w s
  by_cases c2 : uValid (bs s) = true
  · rw [c2] at kv
    have kE := fun w => pencode_c s 6 w (by omega)
    have hlen : (strOfNums (pe 6 (uDec (bs s)))).size ≤ 1000000 := by
      have h1 := pe_len 6 (uDec (bs s))
      have h2 := bs_dec s
      have h3 : (strOfNums (pe 6 (uDec (bs s)))).size = (pe 6 (uDec (bs s))).length := by simp [strOfNums, ByteArray.size]
      omega
    have kD := fun w => pdecode_c (strOfNums (pe 6 (uDec (bs s)))) w hlen
    simp only [pback s c2] at kD
    have hst := strOf_bs s
    generalize strOfNums (pe 6 (uDec (bs s))) = t at *
    clear hlen
    have kE := Lib.hid kE
    have kD := Lib.hid kD
    have kv := Lib.hid kv
    have hst := Lib.hid hst
    have hl := Lib.hid hl
    have c2 := Lib.hid c2
    go_enter Try.func5, Try.ntmps5
    go_wp2_with fail
    refine kv.out.mono ?_
    rintro e w1 ⟨rfl, h1⟩
    have hb1 := below_step hB h1
    clear h1 hB
    go_wp2_with fail
    refine (kE.out w1).mono ?_
    rintro e w2 ⟨rfl, h2⟩
    have hb2 := below_step hb1 h2
    clear h2 hb1
    go_wp2_with fail
    refine (kD.out w2).mono ?_
    rintro e w3 ⟨v3, rfl, hr, h3⟩
    obtain ⟨A3, q3, rfl, -, hc3⟩ := Kd.R_reads hr
    have hb3 := below_step hb2 h3
    clear hr h3 hb2
    have hsc := Kd.C_string (c := q3) Try.underlying27 Try.underlying5 Try.underlying9 hc3
    rw [hl.out, hst.out] at hsc
    go_wp2_with fail
    refine (aw.out w3).mono ?_
    rintro e w4 ⟨rfl, h4⟩
    have hb4 := below_step hb3 h4
    clear h4 hb3
    go_wp2_with fail
    go_ret
    exact ⟨rfl, hb4⟩
  · have c2 : uValid (bs s) = false := by simpa using c2
    rw [c2] at kv
    have kv := Lib.hid kv
    have hl := Lib.hid hl
    have c2 := Lib.hid c2
    go_enter Try.func5, Try.ntmps5
    go_wp2_with fail
    refine kv.out.mono ?_
    rintro e w1 ⟨rfl, h1⟩
    have hb1 := below_step hB h1
    clear h1 hB
    go_wp2_with fail
    refine (aw.out w1).mono ?_
    rintro e w2 ⟨rfl, h2⟩
    have hb2 := below_step hb1 h2
    clear h2 hb1
    go_wp2_with fail
    go_ret
    exact ⟨rfl, hb2⟩

end Go.Proofs.Ytdbihmkeljakeaa.LinkPctTells
