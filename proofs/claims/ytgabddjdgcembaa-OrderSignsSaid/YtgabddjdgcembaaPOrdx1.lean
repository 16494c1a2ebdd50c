/- utf.leads: what the Go function returns is what the Lean function tells, for every number: the walk is typed by hand, case by case. No condition. -/
import Derived.Test.YtgabddjdgcembaaPOrdx0
namespace Go.Proofs.Ytgabddjdgcembaa.POrd
open Go.RowKit Go.Proofs.YtgabddjdgcembaaW.PrintWords Go.Proofs.YtgabddjdgcembaaW.PrintLast Go.Proofs.YtgabddjdgcembaaW.PrintMore
attribute [local go_sem] max2_int min2_int max_two min_two max_three min_three max_four min_four   -- for this text's walks alone
set_option linter.unusedVariables false
set_option linter.unusedSimpArgs false

/-! ### gossamerlaw0_Long: function 10 -/
def gossamerlaw0_Long.l0 : Nat → Int → List ByteArray → Int → Option (Bool)
  | 0, _, _, _ => none
  | k + 1, x0, x1, x5 => if x5 < (x1.length : Int) then (if 0 ≤ x5 then (if ((rdOf ByteArray.empty x1 x5).size : Int) ≥ x0 then (some true) else (gossamerlaw0_Long.l0 k (wrap64 ((wrap64 (x0 - ((rdOf ByteArray.empty x1 x5).size : Int))) - 1)) x1 (wrap64 (x5 + 1)))) else (none)) else (some false)
def gossamerlaw0_Long.f (k : Nat) (a0 : Int) (l1 : List ByteArray) : Option (Bool) := gossamerlaw0_Long.l0 k a0 l1 0
theorem gossamerlaw0_Long.mono_l : ∀ k, (∀ y0 y1 y2, LeO (gossamerlaw0_Long.l0 k y0 y1 y2) (gossamerlaw0_Long.l0 (k + 1) y0 y1 y2))
  | 0 => fun _ _ _ r h => by simp [gossamerlaw0_Long.l0] at h
  | k + 1 => by
    have ih0 := gossamerlaw0_Long.mono_l k
    · intro y0 y1 y2
      unfold gossamerlaw0_Long.l0
      repeat' first
      | (with_reducible exact ih0 _ _ _)
      | (with_reducible exact LeO.refl _)
      | (with_reducible exact LeO.none _)
      | (with_reducible refine LeO.ite ?_ ?_)
      | (with_reducible refine LeO.bind ?_ (fun _ => ?_))
      | exact ih0 _ _ _
      | exact LeO.none _
      | refine LeO.ite ?_ ?_
      | refine LeO.bind ?_ (fun _ => ?_)
theorem gossamerlaw0_Long.mono : ∀ a0 a1 k, LeO (gossamerlaw0_Long.f k a0 a1) (gossamerlaw0_Long.f (k + 1) a0 a1) := by
  intro a0 a1 k
  have ih0 := gossamerlaw0_Long.mono_l k
  unfold gossamerlaw0_Long.f
  repeat' first
      | (with_reducible exact ih0 _ _ _)
      | (with_reducible exact LeO.refl _)
      | (with_reducible exact LeO.none _)
      | (with_reducible refine LeO.ite ?_ ?_)
      | (with_reducible refine LeO.bind ?_ (fun _ => ?_))
      | exact ih0 _ _ _
      | exact LeO.none _
      | refine LeO.ite ?_ ?_
      | refine LeO.bind ?_ (fun _ => ?_)
set_option maxHeartbeats 8000000 in
set_option maxRecDepth 100000 in
theorem gossamerlaw0_Long.calls (k : Nat) (a0 : Int) (A1 : Option Addr) (c1 : Nat) (l1 : List ByteArray) (r : Bool) (w : World) (hr1 : Kd.C Kd.string w A1 l1.length l1) (hc1 : l1.length ≤ c1) (h : gossamerlaw0_Long.f k a0 l1 = some r) :
    Calls Try.prog 10 #[.int .i64 a0, .slice A1 l1.length c1] w fun e w' => e = .returned (.bool r) ∧ Drawn0 w w' := by
  have HR1 := Aside0.mk hr1
  have HC1 := Aside0.mk hc1
  clear hr1 hc1
  have H : (gossamerlaw0_Long.l0 k a0 l1 0) = some r := h
  clear h
  have H' := Aside0.mk H
  clear H
  go_enter Try.func10, Try.ntmps10
  go_wp2
  go_loopg [0, 5] k (fun kq v0 v5 w' => ∃ (x0_1 : Int) (x5_1 : Int), v0 = .int .i64 x0_1 ∧ v5 = .int .i64 x5_1 ∧ Aside0 (gossamerlaw0_Long.l0 kq x0_1 l1 x5_1 = some r) ∧ Aside0 (kq ≤ k) ∧ Drawn0 w w')
  case atStart => exact ⟨(a0), (0), (by first | rfl | (simp; done) | (simp [*]; done)), (by first | rfl | (simp; done) | (simp [*]; done)), H', ⟨Nat.le_refl _⟩, by repeat (first | exact Drawn0.refl _ | apply Drawn0.step)⟩
  case round =>
    clear H'
    try clear c1
    try clear p2
    obtain ⟨x0_1, x5_1, rfl, rfl, HA, HK1, ⟨m1, rfl⟩⟩ := hrel
    cases gk with
    | zero => exact absurd HA.out (by simp [gossamerlaw0_Long.l0])
    | succ k1 =>
      have H := HA.out
      clear HA
      simp only [gossamerlaw0_Long.l0] at H
      by_cases c3 : x5_1 < (l1.length : Int)
      · rw [if_pos c3] at H
        have c3b0 : decide (x5_1 < (l1.length : Int)) = true := decide_eq_true c3
        clear c3
        by_cases c4 : 0 ≤ x5_1
        · rw [if_pos c4] at H
          have c4b0 : decide (0 ≤ x5_1) = true := decide_eq_true c4
          clear c4
          by_cases c5 : ((rdOf ByteArray.empty l1 x5_1).size : Int) ≥ x0_1
          · rw [if_pos c5] at H
            have c5b0 : decide (x0_1 ≤ ((rdOf ByteArray.empty l1 x5_1).size : Int)) = true := decide_eq_true c5
            clear c5
            obtain rfl := Option.some.inj H
            have p101 : 0 ≤ (x5_1 : Int) := of_decide_eq_true (by first | (with_reducible assumption) | assumption)
            have q101 : x5_1 < (l1.length : Int) := of_decide_eq_true (by first | (with_reducible assumption) | assumption)
            obtain ⟨ad101, e101, hx101_0⟩ := Kd.at_string HR1.out x5_1 p101 q101
            cases e101
            replace p101 := eq_true p101
            replace q101 := eq_true q101
            go_wp2
            go_ret
            exact ⟨by first | rfl | (simp; done) | (simp [*]; done), by repeat (first | exact Drawn0.refl _ | apply Drawn0.step)⟩
          · rw [if_neg c5] at H
            have c5b0 : decide (x0_1 ≤ ((rdOf ByteArray.empty l1 x5_1).size : Int)) = false := decide_eq_false c5
            clear c5
            have H' := Aside0.mk H
            clear H
            have p101 : 0 ≤ (x5_1 : Int) := of_decide_eq_true (by first | (with_reducible assumption) | assumption)
            have q101 : x5_1 < (l1.length : Int) := of_decide_eq_true (by first | (with_reducible assumption) | assumption)
            obtain ⟨ad101, e101, hx101_0⟩ := Kd.at_string HR1.out x5_1 p101 q101
            cases e101
            replace p101 := eq_true p101
            replace q101 := eq_true q101
            have p102 : 0 ≤ (x5_1 : Int) := of_decide_eq_true (by first | (with_reducible assumption) | assumption)
            have q102 : x5_1 < (l1.length : Int) := of_decide_eq_true (by first | (with_reducible assumption) | assumption)
            obtain ⟨ad102, e102, hx102_0⟩ := Kd.at_string HR1.out x5_1 p102 q102
            obtain rfl : ad101 = ad102 := (by injection e102)
            replace p102 := eq_true p102
            replace q102 := eq_true q102
            go_wp2
            go_roundg k1
            case measure => have := HK1.out; omega
            case rel => exact ⟨(wrap64 ((wrap64 (x0_1 - ((rdOf ByteArray.empty l1 x5_1).size : Int))) - 1)), (wrap64 (x5_1 + 1)), (by first | rfl | (simp; done) | (simp [*]; done)), (by first | rfl | (simp; done) | (simp [*]; done)), H', ⟨by have := HK1.out; omega⟩, by repeat (first | exact Drawn0.refl _ | apply Drawn0.step)⟩
        · rw [if_neg c4] at H
          exact absurd H (by simp)
      · rw [if_neg c3] at H
        have c3b0 : decide (x5_1 < (l1.length : Int)) = false := decide_eq_false c3
        clear c3
        obtain rfl := Option.some.inj H
        go_wp2
        go_ret
        exact ⟨by first | rfl | (simp; done) | (simp [*]; done), by repeat (first | exact Drawn0.refl _ | apply Drawn0.step)⟩

/-! ### utf_leads: function 43 -/
mutual
def utf_leads.j0 : Nat → Int → Bool → Int → Int → Int → Int → Option (Int × Int × Int × Int × Bool)
  | 0, _, _, _, _, _, _ => none
  | k + 1, x0, x13, x105000, x105001, x105002, x105003 => if x13 = true then (some (1, wrap32 (Go.bits .and .u8 x0 31), x105002, x105003, true)) else (if x0 ≥ 224 then (utf_leads.j1 k x0 (decide (x0 ≤ 239)) x105000 x105001 x105002 x105003) else (utf_leads.j1 k x0 false x105000 x105001 x105002 x105003))
def utf_leads.j1 : Nat → Int → Bool → Int → Int → Int → Int → Option (Int × Int × Int × Int × Bool)
  | 0, _, _, _, _, _, _ => none
  | k + 1, x0, x25, x105000, x105001, x105002, x105003 => if x25 = true then (if x0 = 224 then (if x0 = 237 then (some (2, wrap32 (Go.bits .and .u8 x0 15), 160, 159, true)) else (some (2, wrap32 (Go.bits .and .u8 x0 15), 160, x105003, true))) else (if x0 = 237 then (some (2, wrap32 (Go.bits .and .u8 x0 15), x105002, 159, true)) else (some (2, wrap32 (Go.bits .and .u8 x0 15), x105002, x105003, true)))) else (if x0 ≥ 240 then (utf_leads.j2 k x0 (decide (x0 ≤ 244)) x105000 x105001 x105002 x105003) else (utf_leads.j2 k x0 false x105000 x105001 x105002 x105003))
def utf_leads.j2 : Nat → Int → Bool → Int → Int → Int → Int → Option (Int × Int × Int × Int × Bool)
  | 0, _, _, _, _, _, _ => none
  | k + 1, x0, x43, x105000, x105001, x105002, x105003 => if x43 = true then (if x0 = 240 then (if x0 = 244 then (some (3, wrap32 (Go.bits .and .u8 x0 7), 144, 143, true)) else (some (3, wrap32 (Go.bits .and .u8 x0 7), 144, x105003, true))) else (if x0 = 244 then (some (3, wrap32 (Go.bits .and .u8 x0 7), x105002, 143, true)) else (some (3, wrap32 (Go.bits .and .u8 x0 7), x105002, x105003, true)))) else (some (0, 0, 0, 0, false))
end
def utf_leads.f (k : Nat) (a0 : Int) : Option (Int × Int × Int × Int × Bool) := if a0 < 128 then (some (0, wrap32 (a0), 128, 191, true)) else (if a0 ≥ 194 then (utf_leads.j0 k a0 (decide (a0 ≤ 223)) 0 0 128 191) else (utf_leads.j0 k a0 false 0 0 128 191))
theorem utf_leads.mono_l : ∀ k, (∀ y0 y1 y2 y3 y4 y5, LeO (utf_leads.j0 k y0 y1 y2 y3 y4 y5) (utf_leads.j0 (k + 1) y0 y1 y2 y3 y4 y5)) ∧ (∀ y0 y1 y2 y3 y4 y5, LeO (utf_leads.j1 k y0 y1 y2 y3 y4 y5) (utf_leads.j1 (k + 1) y0 y1 y2 y3 y4 y5)) ∧ (∀ y0 y1 y2 y3 y4 y5, LeO (utf_leads.j2 k y0 y1 y2 y3 y4 y5) (utf_leads.j2 (k + 1) y0 y1 y2 y3 y4 y5))
  | 0 => ⟨fun _ _ _ _ _ _ r h => by simp [utf_leads.j0] at h, fun _ _ _ _ _ _ r h => by simp [utf_leads.j1] at h, fun _ _ _ _ _ _ r h => by simp [utf_leads.j2] at h⟩
  | k + 1 => by
    obtain ⟨ih0, ih1, ih2⟩ := utf_leads.mono_l k
    refine ⟨?_, ?_, ?_⟩
    · intro y0 y1 y2 y3 y4 y5
      unfold utf_leads.j0
      repeat' first
      | (with_reducible exact ih0 _ _ _ _ _ _)
      | (with_reducible exact ih1 _ _ _ _ _ _)
      | (with_reducible exact ih2 _ _ _ _ _ _)
      | (with_reducible exact LeO.refl _)
      | (with_reducible exact LeO.none _)
      | (with_reducible refine LeO.ite ?_ ?_)
      | (with_reducible refine LeO.bind ?_ (fun _ => ?_))
      | exact ih0 _ _ _ _ _ _
      | exact ih1 _ _ _ _ _ _
      | exact ih2 _ _ _ _ _ _
      | exact LeO.none _
      | refine LeO.ite ?_ ?_
      | refine LeO.bind ?_ (fun _ => ?_)
    · intro y0 y1 y2 y3 y4 y5
      unfold utf_leads.j1
      repeat' first
      | (with_reducible exact ih0 _ _ _ _ _ _)
      | (with_reducible exact ih1 _ _ _ _ _ _)
      | (with_reducible exact ih2 _ _ _ _ _ _)
      | (with_reducible exact LeO.refl _)
      | (with_reducible exact LeO.none _)
      | (with_reducible refine LeO.ite ?_ ?_)
      | (with_reducible refine LeO.bind ?_ (fun _ => ?_))
      | exact ih0 _ _ _ _ _ _
      | exact ih1 _ _ _ _ _ _
      | exact ih2 _ _ _ _ _ _
      | exact LeO.none _
      | refine LeO.ite ?_ ?_
      | refine LeO.bind ?_ (fun _ => ?_)
    · intro y0 y1 y2 y3 y4 y5
      unfold utf_leads.j2
      repeat' first
      | (with_reducible exact ih0 _ _ _ _ _ _)
      | (with_reducible exact ih1 _ _ _ _ _ _)
      | (with_reducible exact ih2 _ _ _ _ _ _)
      | (with_reducible exact LeO.refl _)
      | (with_reducible exact LeO.none _)
      | (with_reducible refine LeO.ite ?_ ?_)
      | (with_reducible refine LeO.bind ?_ (fun _ => ?_))
      | exact ih0 _ _ _ _ _ _
      | exact ih1 _ _ _ _ _ _
      | exact ih2 _ _ _ _ _ _
      | exact LeO.none _
      | refine LeO.ite ?_ ?_
      | refine LeO.bind ?_ (fun _ => ?_)
theorem utf_leads.mono : ∀ a0 k, LeO (utf_leads.f k a0) (utf_leads.f (k + 1) a0) := by
  intro a0 k
  obtain ⟨ih0, ih1, ih2⟩ := utf_leads.mono_l k
  unfold utf_leads.f
  repeat' first
      | (with_reducible exact ih0 _ _ _ _ _ _)
      | (with_reducible exact ih1 _ _ _ _ _ _)
      | (with_reducible exact ih2 _ _ _ _ _ _)
      | (with_reducible exact LeO.refl _)
      | (with_reducible exact LeO.none _)
      | (with_reducible refine LeO.ite ?_ ?_)
      | (with_reducible refine LeO.bind ?_ (fun _ => ?_))
      | exact ih0 _ _ _ _ _ _
      | exact ih1 _ _ _ _ _ _
      | exact ih2 _ _ _ _ _ _
      | exact LeO.none _
      | refine LeO.ite ?_ ?_
      | refine LeO.bind ?_ (fun _ => ?_)
set_option maxHeartbeats 400000 in
set_option maxRecDepth 100000 in
theorem leads_lt (a0 : Int) (w : World) (h : a0 < 128) :
    Calls Try.prog 43 #[.int .u8 a0] w fun e w' => e = .returned (.tuple #[.agg #[.int .i64 0, .int .i32 (wrap32 a0), .int .u8 128, .int .u8 191], .bool true]) ∧ Below w.heap.size w w' := by
  have hu := Try.underlying58
  go_enter Try.func43, Try.ntmps43
  go_wp2_with fail
  refine bodyPost_ret (v := .tuple #[.agg #[.int .i64 0, .int .i32 (wrap32 a0), .int .u8 128, .int .u8 191], .bool true]) (by simp [results, Try.results43, go_sem]) rfl ⟨rfl, ?_⟩
  exact (((Below.refl _ _).alloc (Nat.le_refl _) _).alloc (by simp) _)

set_option maxHeartbeats 400000 in
set_option maxRecDepth 100000 in
theorem leads_none1 (a0 : Int) (w : World) (h : 128 ≤ a0) (h' : a0 < 194) :
    Calls Try.prog 43 #[.int .u8 a0] w fun e w' => e = .returned (.tuple #[.agg #[.int .i64 0, .int .i32 (0), .int .u8 0, .int .u8 0], .bool false]) ∧ Below w.heap.size w w' := by
  have hu := Try.underlying58
  go_enter Try.func43, Try.ntmps43
  go_wp2_with fail
  refine bodyPost_ret (v := .tuple #[.agg #[.int .i64 0, .int .i32 (0), .int .u8 0, .int .u8 0], .bool false]) (by simp [results, Try.results43, go_sem]) rfl ⟨rfl, ?_⟩
  exact (((Below.refl _ _).alloc (Nat.le_refl _) _).alloc (by simp) _)

set_option maxHeartbeats 400000 in
set_option maxRecDepth 100000 in
theorem leads_two (a0 : Int) (w : World) (h : 194 ≤ a0) (h' : a0 ≤ 223) :
    Calls Try.prog 43 #[.int .u8 a0] w fun e w' => e = .returned (.tuple #[.agg #[.int .i64 1, .int .i32 ((a0 % 32)), .int .u8 128, .int .u8 191], .bool true]) ∧ Below w.heap.size w w' := by
  have hu := Try.underlying58
  go_enter Try.func43, Try.ntmps43
  go_wp2_with fail
  refine bodyPost_ret (v := .tuple #[.agg #[.int .i64 1, .int .i32 ((a0 % 32)), .int .u8 128, .int .u8 191], .bool true]) (by simp [results, Try.results43, go_sem]) rfl ⟨rfl, ?_⟩
  exact (((Below.refl _ _).alloc (Nat.le_refl _) _).alloc (by simp) _)

set_option maxHeartbeats 400000 in
set_option maxRecDepth 100000 in
theorem leads_e0 (a0 : Int) (w : World) (h : a0 = 224) :
    Calls Try.prog 43 #[.int .u8 a0] w fun e w' => e = .returned (.tuple #[.agg #[.int .i64 2, .int .i32 (0), .int .u8 160, .int .u8 191], .bool true]) ∧ Below w.heap.size w w' := by
  have hu := Try.underlying58
  go_enter Try.func43, Try.ntmps43
  go_wp2_with fail
  refine bodyPost_ret (v := .tuple #[.agg #[.int .i64 2, .int .i32 (0), .int .u8 160, .int .u8 191], .bool true]) (by simp [results, Try.results43, go_sem]) rfl ⟨rfl, ?_⟩
  exact (((Below.refl _ _).alloc (Nat.le_refl _) _).alloc (by simp) _)

set_option maxHeartbeats 400000 in
set_option maxRecDepth 100000 in
theorem leads_ed (a0 : Int) (w : World) (h : a0 = 237) :
    Calls Try.prog 43 #[.int .u8 a0] w fun e w' => e = .returned (.tuple #[.agg #[.int .i64 2, .int .i32 (13), .int .u8 128, .int .u8 159], .bool true]) ∧ Below w.heap.size w w' := by
  have hu := Try.underlying58
  go_enter Try.func43, Try.ntmps43
  go_wp2_with fail
  refine bodyPost_ret (v := .tuple #[.agg #[.int .i64 2, .int .i32 (13), .int .u8 128, .int .u8 159], .bool true]) (by simp [results, Try.results43, go_sem]) rfl ⟨rfl, ?_⟩
  exact (((Below.refl _ _).alloc (Nat.le_refl _) _).alloc (by simp) _)

set_option maxHeartbeats 400000 in
set_option maxRecDepth 100000 in
theorem leads_three (a0 : Int) (w : World) (h : 225 ≤ a0) (h' : a0 ≤ 239) (h'' : a0 ≠ 237) :
    Calls Try.prog 43 #[.int .u8 a0] w fun e w' => e = .returned (.tuple #[.agg #[.int .i64 2, .int .i32 ((a0 % 16)), .int .u8 128, .int .u8 191], .bool true]) ∧ Below w.heap.size w w' := by
  have hu := Try.underlying58
  go_enter Try.func43, Try.ntmps43
  go_wp2_with fail
  refine bodyPost_ret (v := .tuple #[.agg #[.int .i64 2, .int .i32 ((a0 % 16)), .int .u8 128, .int .u8 191], .bool true]) (by simp [results, Try.results43, go_sem]) rfl ⟨rfl, ?_⟩
  exact (((Below.refl _ _).alloc (Nat.le_refl _) _).alloc (by simp) _)

set_option maxHeartbeats 400000 in
set_option maxRecDepth 100000 in
theorem leads_f0 (a0 : Int) (w : World) (h : a0 = 240) :
    Calls Try.prog 43 #[.int .u8 a0] w fun e w' => e = .returned (.tuple #[.agg #[.int .i64 3, .int .i32 (0), .int .u8 144, .int .u8 191], .bool true]) ∧ Below w.heap.size w w' := by
  have hu := Try.underlying58
  go_enter Try.func43, Try.ntmps43
  go_wp2_with fail
  refine bodyPost_ret (v := .tuple #[.agg #[.int .i64 3, .int .i32 (0), .int .u8 144, .int .u8 191], .bool true]) (by simp [results, Try.results43, go_sem]) rfl ⟨rfl, ?_⟩
  exact (((Below.refl _ _).alloc (Nat.le_refl _) _).alloc (by simp) _)

set_option maxHeartbeats 400000 in
set_option maxRecDepth 100000 in
theorem leads_f4 (a0 : Int) (w : World) (h : a0 = 244) :
    Calls Try.prog 43 #[.int .u8 a0] w fun e w' => e = .returned (.tuple #[.agg #[.int .i64 3, .int .i32 (4), .int .u8 128, .int .u8 143], .bool true]) ∧ Below w.heap.size w w' := by
  have hu := Try.underlying58
  go_enter Try.func43, Try.ntmps43
  go_wp2_with fail
  refine bodyPost_ret (v := .tuple #[.agg #[.int .i64 3, .int .i32 (4), .int .u8 128, .int .u8 143], .bool true]) (by simp [results, Try.results43, go_sem]) rfl ⟨rfl, ?_⟩
  exact (((Below.refl _ _).alloc (Nat.le_refl _) _).alloc (by simp) _)

set_option maxHeartbeats 400000 in
set_option maxRecDepth 100000 in
theorem leads_four (a0 : Int) (w : World) (h : 241 ≤ a0) (h' : a0 ≤ 243) :
    Calls Try.prog 43 #[.int .u8 a0] w fun e w' => e = .returned (.tuple #[.agg #[.int .i64 3, .int .i32 ((a0 % 8)), .int .u8 128, .int .u8 191], .bool true]) ∧ Below w.heap.size w w' := by
  have hu := Try.underlying58
  go_enter Try.func43, Try.ntmps43
  go_wp2_with fail
  refine bodyPost_ret (v := .tuple #[.agg #[.int .i64 3, .int .i32 ((a0 % 8)), .int .u8 128, .int .u8 191], .bool true]) (by simp [results, Try.results43, go_sem]) rfl ⟨rfl, ?_⟩
  exact (((Below.refl _ _).alloc (Nat.le_refl _) _).alloc (by simp) _)

set_option maxHeartbeats 400000 in
set_option maxRecDepth 100000 in
theorem leads_none2 (a0 : Int) (w : World) (h : 245 ≤ a0) :
    Calls Try.prog 43 #[.int .u8 a0] w fun e w' => e = .returned (.tuple #[.agg #[.int .i64 0, .int .i32 (0), .int .u8 0, .int .u8 0], .bool false]) ∧ Below w.heap.size w w' := by
  have hu := Try.underlying58
  go_enter Try.func43, Try.ntmps43
  go_wp2_with fail
  refine bodyPost_ret (v := .tuple #[.agg #[.int .i64 0, .int .i32 (0), .int .u8 0, .int .u8 0], .bool false]) (by simp [results, Try.results43, go_sem]) rfl ⟨rfl, ?_⟩
  exact (((Below.refl _ _).alloc (Nat.le_refl _) _).alloc (by simp) _)

def leadsB (a0 : Int) : Int × Int × Int × Int × Bool :=
  if a0 < 128 then (0, wrap32 a0, 128, 191, true) else if a0 < 194 then (0, 0, 0, 0, false) else if a0 ≤ 223 then (1, a0 % 32, 128, 191, true)
  else if a0 = 224 then (2, 0, 160, 191, true) else if a0 = 237 then (2, 13, 128, 159, true) else if a0 ≤ 239 then (2, a0 % 16, 128, 191, true)
  else if a0 = 240 then (3, 0, 144, 191, true) else if a0 = 244 then (3, 4, 128, 143, true) else if a0 ≤ 243 then (3, a0 % 8, 128, 191, true) else (0, 0, 0, 0, false)
theorem leads_calls (a0 : Int) (w : World) :
    Calls Try.prog 43 #[.int .u8 a0] w fun e w' => e = .returned (.tuple #[.agg #[.int .i64 (leadsB a0).1, .int .i32 (leadsB a0).2.1, .int .u8 (leadsB a0).2.2.1, .int .u8 (leadsB a0).2.2.2.1], .bool (leadsB a0).2.2.2.2]) ∧ Below w.heap.size w w' := by
  by_cases c1 : a0 < 128
  · have e : leadsB a0 = (0, wrap32 a0, 128, 191, true) := by unfold leadsB; rw [if_pos c1]
    rw [e]; exact leads_lt a0 w c1
  · by_cases c2 : a0 < 194
    · have e : leadsB a0 = (0, 0, 0, 0, false) := by unfold leadsB; rw [if_neg c1, if_pos c2]
      rw [e]; exact leads_none1 a0 w (by omega) c2
    · by_cases c3 : a0 ≤ 223
      · have e : leadsB a0 = (1, a0 % 32, 128, 191, true) := by unfold leadsB; rw [if_neg c1, if_neg c2, if_pos c3]
        rw [e]; exact leads_two a0 w (by omega) c3
      · by_cases c4 : a0 = 224
        · have e : leadsB a0 = (2, 0, 160, 191, true) := by unfold leadsB; rw [if_neg c1, if_neg c2, if_neg c3, if_pos c4]
          rw [e]; exact leads_e0 a0 w c4
        · by_cases c5 : a0 = 237
          · have e : leadsB a0 = (2, 13, 128, 159, true) := by unfold leadsB; rw [if_neg c1, if_neg c2, if_neg c3, if_neg c4, if_pos c5]
            rw [e]; exact leads_ed a0 w c5
          · by_cases c6 : a0 ≤ 239
            · have e : leadsB a0 = (2, a0 % 16, 128, 191, true) := by unfold leadsB; rw [if_neg c1, if_neg c2, if_neg c3, if_neg c4, if_neg c5, if_pos c6]
              rw [e]; exact leads_three a0 w (by omega) c6 c5
            · by_cases c7 : a0 = 240
              · have e : leadsB a0 = (3, 0, 144, 191, true) := by unfold leadsB; rw [if_neg c1, if_neg c2, if_neg c3, if_neg c4, if_neg c5, if_neg c6, if_pos c7]
                rw [e]; exact leads_f0 a0 w c7
              · by_cases c8 : a0 = 244
                · have e : leadsB a0 = (3, 4, 128, 143, true) := by unfold leadsB; rw [if_neg c1, if_neg c2, if_neg c3, if_neg c4, if_neg c5, if_neg c6, if_neg c7, if_pos c8]
                  rw [e]; exact leads_f4 a0 w c8
                · by_cases c9 : a0 ≤ 243
                  · have e : leadsB a0 = (3, a0 % 8, 128, 191, true) := by unfold leadsB; rw [if_neg c1, if_neg c2, if_neg c3, if_neg c4, if_neg c5, if_neg c6, if_neg c7, if_neg c8, if_pos c9]
                    rw [e]; exact leads_four a0 w (by omega) c9
                  · have e : leadsB a0 = (0, 0, 0, 0, false) := by unfold leadsB; rw [if_neg c1, if_neg c2, if_neg c3, if_neg c4, if_neg c5, if_neg c6, if_neg c7, if_neg c8, if_neg c9]
                    rw [e]; exact leads_none2 a0 w (by omega)
theorem leads_f (a0 : Int) (k : Nat) : utf_leads.f (k + 4) a0 = some (leadsB a0) := by
  unfold utf_leads.f leadsB
  simp only [utf_leads.j0, utf_leads.j1, utf_leads.j2, decide_eq_true_eq, ge_iff_le]
  by_cases c1 : a0 < 128
  · simp only [if_pos c1]
  · by_cases c2 : a0 < 194
    · simp only [if_neg c1, if_pos c2, if_neg (show ¬ 194 ≤ a0 by omega), if_neg (show ¬ 224 ≤ a0 by omega), if_neg (show ¬ 240 ≤ a0 by omega), Bool.false_eq_true, if_false]
    · by_cases c3 : a0 ≤ 223
      · simp only [if_neg c1, if_neg c2, if_pos c3, if_pos (show 194 ≤ a0 by omega)]
        rw [u8_and31 _ (by omega) (by omega)]; unfold wrap32; rw [show (a0 % 32 + 2147483648) % 4294967296 - 2147483648 = a0 % 32 by omega]
      · by_cases c4 : a0 ≤ 239
        · simp only [if_neg c1, if_neg c2, if_neg c3, if_pos c4, if_pos (show 194 ≤ a0 by omega), if_pos (show 224 ≤ a0 by omega)]
          rw [u8_and15 _ (by omega) (by omega)]
          have e : wrap32 (a0 % 16) = a0 % 16 := by unfold wrap32; omega
          rw [e]
          by_cases d1 : a0 = 224
          · subst d1; simp
          · by_cases d2 : a0 = 237
            · subst d2; simp
            · simp only [if_neg d1, if_neg d2]
        · by_cases c5 : a0 ≤ 244
          · simp only [if_neg c1, if_neg c2, if_neg c3, if_neg c4, if_pos c5, if_pos (show 194 ≤ a0 by omega), if_pos (show 224 ≤ a0 by omega), if_pos (show 240 ≤ a0 by omega), if_neg (show ¬ a0 = 224 by omega), if_neg (show ¬ a0 = 237 by omega)]
            rw [u8_and7 _ (by omega) (by omega)]
            have e : wrap32 (a0 % 8) = a0 % 8 := by unfold wrap32; omega
            rw [e]
            by_cases d1 : a0 = 240
            · subst d1; simp
            · by_cases d2 : a0 = 244
              · subst d2; simp
              · simp only [if_neg d1, if_neg d2, if_pos (show a0 ≤ 243 by omega)]
          · simp only [if_neg c1, if_neg c2, if_neg c3, if_neg c4, if_neg c5, if_pos (show 194 ≤ a0 by omega), if_pos (show 224 ≤ a0 by omega), if_pos (show 240 ≤ a0 by omega), if_neg (show ¬ a0 = 224 by omega), if_neg (show ¬ a0 = 237 by omega), if_neg (show ¬ a0 = 240 by omega), if_neg (show ¬ a0 = 244 by omega), if_neg (show ¬ a0 ≤ 243 by omega)]
theorem utf_leads.calls (k : Nat) (a0 : Int) (r1 : Int) (r2 : Int) (r3 : Int) (r4 : Int) (r5 : Bool) (w : World) (h : utf_leads.f k a0 = some (r1, r2, r3, r4, r5)) :
    Calls Try.prog 43 #[.int .u8 a0] w fun e w' => e = .returned (.tuple #[.agg #[.int .i64 r1, .int .i32 r2, .int .u8 r3, .int .u8 r4], .bool r5]) ∧ Below w.heap.size w w' := by
  have h4 := at_rounds (g := fun k => utf_leads.f k a0) (fun k => utf_leads.mono a0 k) (Nat.le_add_right k 4) h
  rw [show utf_leads.f (k + 4) a0 = some (leadsB a0) from leads_f a0 k] at h4
  have e := Option.some.inj h4
  have := leads_calls a0 w
  rw [e] at this
  exact this

end Go.Proofs.Ytgabddjdgcembaa.POrd
