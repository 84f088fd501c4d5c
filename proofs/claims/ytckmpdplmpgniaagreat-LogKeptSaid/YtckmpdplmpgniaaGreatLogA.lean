/- Contracts of package log: shapes and regions. No condition but ranges. -/
import Derived.Test.YtckmpdplmpgniaaGreatDevD
import Derived.Test.YtckmpdplmpgniaaGreatDevH
namespace Go.Proofs.YtckmpdplmpgniaaGreat
open Go Go.RowKit

/-- Is it a shape? -/
def rightS (L A D : Int) : Bool := decide ((1 ≤ L ∧ L ≤ 8192) ∧ (1 ≤ A ∧ A ≤ 8192) ∧ (1 ≤ D ∧ D ≤ 8192) ∧ 1 + L + A + A + D ≤ 8192)

/-- The k-th number that is asked. -/
def askS (L A D : Int) : Nat → Int
  | 0 => L
  | 1 => A
  | 2 => A
  | _ => D
/-- What is counted ahead of the k-th. -/
def sumS (L A D : Int) : Nat → Int
  | 0 => 1
  | k + 1 => sumS L A D k + askS L A D k

theorem idx4 (L A D : Int) (w : World) : (Instr.index 74 (.agg #[.int .i64 L, .int .i64 A, .int .i64 A, .int .i64 D]) (.int .i64 0)).run Tryz.prog w = .ok (.int .i64 L) w ∧ (Instr.index 74 (.agg #[.int .i64 L, .int .i64 A, .int .i64 A, .int .i64 D]) (.int .i64 1)).run Tryz.prog w = .ok (.int .i64 A) w ∧ (Instr.index 74 (.agg #[.int .i64 L, .int .i64 A, .int .i64 A, .int .i64 D]) (.int .i64 2)).run Tryz.prog w = .ok (.int .i64 A) w ∧ (Instr.index 74 (.agg #[.int .i64 L, .int .i64 A, .int .i64 A, .int .i64 D]) (.int .i64 3)).run Tryz.prog w = .ok (.int .i64 D) w := ⟨by kernel_rfl, by kernel_rfl, by kernel_rfl, by kernel_rfl⟩

set_option maxRecDepth 100000 in
set_option maxHeartbeats 2000000 in
theorem Right_any (w : World) (L A D : Int) (hL : -9223372036854775808 ≤ L ∧ L ≤ 9223372036854775807) (hA : -9223372036854775808 ≤ A ∧ A ≤ 9223372036854775807) (hD : -9223372036854775808 ≤ D ∧ D ≤ 9223372036854775807) :
    Calls Tryz.prog 8 #[.agg #[.int .i64 L, .int .i64 A, .int .i64 D]] w fun x w' => x = .returned (.bool (rightS L A D)) ∧ Ex [] w w' := by
  have HR : Hid (rightS L A D = decide ((1 ≤ L ∧ L ≤ 8192) ∧ (1 ≤ A ∧ A ≤ 8192) ∧ (1 ≤ D ∧ D ≤ 8192) ∧ 1 + L + A + A + D ≤ 8192)) := rfl
  have hx : Ex [] w (w.alloc (.cells #[.int .i64 L, .int .i64 A, .int .i64 D] 23)) := (Ex.refl [] w).alloc _
  have HX := Lib.hid hx
  have i0 : ∀ w, _ := fun w => (idx4 L A D w).1
  have i1 : ∀ w, _ := fun w => (idx4 L A D w).2.1
  have i2 : ∀ w, _ := fun w => (idx4 L A D w).2.2.1
  have i3 : ∀ w, _ := fun w => (idx4 L A D w).2.2.2
  clear hx
  go_enter Tryz.func8, Tryz.ntmps8
  go_wp2
  generalize hW : w.alloc (.cells #[.int .i64 L, .int .i64 A, .int .i64 D] 23) = W at *
  go_loopw [3, 15] (fun s i wr => ∃ k : Nat, k ≤ 4 ∧ i = .int .i64 k ∧ s = .int .i64 (sumS L A D k) ∧ wr = W ∧ (∀ j, j < k → 1 ≤ askS L A D j ∧ askS L A D j ≤ 8192)) (fun _ i _ => 4 - (intOf i).toNat)
  case atStart => exact ⟨0, by omega, rfl, rfl, rfl, by omega⟩
  case round =>
    obtain ⟨k, hk, rfl, rfl, rfl, hall⟩ := hrel
    rcases (show k = 0 ∨ k = 1 ∨ k = 2 ∨ k = 3 ∨ k = 4 from by omega) with rfl | rfl | rfl | rfl | rfl
    · have hb : -9223372036854775808 ≤ L ∧ L ≤ 9223372036854775807 := hL
      have hs : sumS L A D 0 = 1 := by simp [sumS]
      rw [hs]
      by_cases hok : 1 ≤ L ∧ L ≤ 8192
      · go_wp2_with fail
        go_roundw
        case rel => exact ⟨1, by omega, by first | trivial | go_num, by first | trivial | simp [sumS, askS], by first | trivial | rfl, fun j hj => by
          rcases Nat.lt_succ_iff_lt_or_eq.1 hj with h | rfl
          · exact hall j h
          · exact hok⟩
        case measure => simp [intOf]
      · have hf : rightS L A D = false := by rw [HR.out, decide_eq_false_iff_not]; omega
        have HF := Lib.hid hf
        clear hf
        go_wp2_with fail
        all_goals go_ret
        all_goals exact ⟨by rw [HF.out]; rfl, HX.out⟩
    · have hb : -9223372036854775808 ≤ A ∧ A ≤ 9223372036854775807 := hA
      have hs : sumS L A D 1 = 1 + L := by simp [sumS, askS]
      have hj0 : 1 ≤ L ∧ L ≤ 8192 := hall 0 (by omega)
      rw [hs]
      by_cases hok : 1 ≤ A ∧ A ≤ 8192
      · go_wp2_with fail
        go_roundw
        case rel => exact ⟨2, by omega, by first | trivial | go_num, by first | trivial | simp [sumS, askS], by first | trivial | rfl, fun j hj => by
          rcases Nat.lt_succ_iff_lt_or_eq.1 hj with h | rfl
          · exact hall j h
          · exact hok⟩
        case measure => simp [intOf]
      · have hf : rightS L A D = false := by rw [HR.out, decide_eq_false_iff_not]; omega
        have HF := Lib.hid hf
        clear hf
        go_wp2_with fail
        all_goals go_ret
        all_goals exact ⟨by rw [HF.out]; rfl, HX.out⟩
    · have hb : -9223372036854775808 ≤ A ∧ A ≤ 9223372036854775807 := hA
      have hs : sumS L A D 2 = 1 + L + A := by simp [sumS, askS]
      have hj0 : 1 ≤ L ∧ L ≤ 8192 := hall 0 (by omega)
      have hj1 : 1 ≤ A ∧ A ≤ 8192 := hall 1 (by omega)
      rw [hs]
      by_cases hok : 1 ≤ A ∧ A ≤ 8192
      · go_wp2_with fail
        go_roundw
        case rel => exact ⟨3, by omega, by first | trivial | go_num, by first | trivial | simp [sumS, askS], by first | trivial | rfl, fun j hj => by
          rcases Nat.lt_succ_iff_lt_or_eq.1 hj with h | rfl
          · exact hall j h
          · exact hok⟩
        case measure => simp [intOf]
      · have hf : rightS L A D = false := by rw [HR.out, decide_eq_false_iff_not]; omega
        have HF := Lib.hid hf
        clear hf
        go_wp2_with fail
        all_goals go_ret
        all_goals exact ⟨by rw [HF.out]; rfl, HX.out⟩
    · have hb : -9223372036854775808 ≤ D ∧ D ≤ 9223372036854775807 := hD
      have hs : sumS L A D 3 = 1 + L + A + A := by simp [sumS, askS]
      have hj0 : 1 ≤ L ∧ L ≤ 8192 := hall 0 (by omega)
      have hj1 : 1 ≤ A ∧ A ≤ 8192 := hall 1 (by omega)
      have hj2 : 1 ≤ A ∧ A ≤ 8192 := hall 2 (by omega)
      rw [hs]
      by_cases hok : 1 ≤ D ∧ D ≤ 8192
      · go_wp2_with fail
        go_roundw
        case rel => exact ⟨4, by omega, by first | trivial | go_num, by first | trivial | simp [sumS, askS], by first | trivial | rfl, fun j hj => by
          rcases Nat.lt_succ_iff_lt_or_eq.1 hj with h | rfl
          · exact hall j h
          · exact hok⟩
        case measure => simp [intOf]
      · have hf : rightS L A D = false := by rw [HR.out, decide_eq_false_iff_not]; omega
        have HF := Lib.hid hf
        clear hf
        go_wp2_with fail
        all_goals go_ret
        all_goals exact ⟨by rw [HF.out]; rfl, HX.out⟩
    · have h0 : 1 ≤ L ∧ L ≤ 8192 := hall 0 (by omega)
      have h1 : 1 ≤ A ∧ A ≤ 8192 := hall 1 (by omega)
      have h3 : 1 ≤ D ∧ D ≤ 8192 := hall 3 (by omega)
      have hs : sumS L A D 4 = 1 + L + A + A + D := by simp [sumS, askS]
      rw [hs]
      have hf : rightS L A D = decide (1 + L + A + A + D ≤ 8192) := by rw [HR.out, decide_eq_decide]; omega
      have HF := Lib.hid hf
      clear hf
      go_wp2_with fail
      go_ret
      exact ⟨by rw [HF.out]; rfl, HX.out⟩

set_option maxHeartbeats 1000000 in
theorem behind_any (w : World) (f m n : Nat) (hf : f + m ≤ 1000000) :
    Calls Tryz.prog 36 #[.agg #[.int .i64 f, .int .i64 m], .int .i64 n] w fun x w' => x = .returned (.agg #[.int .i64 (f + m : Nat), .int .i64 n]) ∧ w' = (w.alloc (.cells #[.int .i64 f, .int .i64 m] 82)).alloc (.cells #[.int .i64 (f + m : Nat), .int .i64 n] 82) := by
  have e : ((f + m : Nat) : Int) = (f : Int) + m := by omega
  have HE := Lib.hid e
  clear e
  go_enter Tryz.func36, Tryz.ntmps36
  go_wp2
  refine bodyPost_ret (v := .agg #[.int .i64 ((f : Int) + m), .int .i64 n]) (by simp [results, Tryz.results36, go_sem]) rfl ⟨by rw [HE.out], by rw [HE.out]⟩

set_option maxHeartbeats 1000000 in
theorem size_any (w : World) (f : Int) (m : Nat) (hm : m ≤ 1000000) :
    Calls Tryz.prog 41 #[.agg #[.int .i64 f, .int .i64 m]] w fun x w' => x = .returned (.int .i64 (m * 64 : Nat)) ∧ w' = w.alloc (.cells #[.int .i64 f, .int .i64 m] 82) := by
  have e : ((m * 64 : Nat) : Int) = (m : Int) * 64 := by omega
  have HE := Lib.hid e
  clear e
  go_enter Tryz.func41, Tryz.ntmps41
  go_wp2
  go_ret
  exact ⟨by rw [HE.out]; rfl, rfl⟩

/-- A shape's numbers, in range. -/
def shapeOk (L A D : Nat) : Prop := (1 ≤ L ∧ L ≤ 8192) ∧ (1 ≤ A ∧ A ≤ 8192) ∧ (1 ≤ D ∧ D ≤ 8192) ∧ 1 + L + A + A + D ≤ 8192

/-- The cells of a layout. -/
def layoutC (L A D : Nat) : Array Value := #[.int .i64 1, .int .i64 L, .int .i64 (1 + L : Nat), .int .i64 A, .int .i64 (1 + L + A : Nat), .int .i64 A, .int .i64 (1 + L + A + A : Nat), .int .i64 D]

set_option maxRecDepth 100000 in
set_option maxHeartbeats 2000000 in
theorem laid_any (w : World) (L A D : Nat) (hs : shapeOk L A D) :
    Calls Tryz.prog 35 #[.agg #[.int .i64 L, .int .i64 A, .int .i64 D]] w fun x w' => x = .returned (.agg (layoutC L A D)) ∧ Ex [] w w' := by
  obtain ⟨hL, hA, hD, hT⟩ := hs
  go_enter Tryz.func35, Tryz.ntmps35
  go_wp2_with fail
  refine (behind_any _ 1 L A (by omega)).mono ?_
  rintro x w' ⟨rfl, rfl⟩
  go_wp2_with fail
  refine (behind_any _ (1 + L) A A (by omega)).mono ?_
  rintro x w' ⟨rfl, rfl⟩
  go_wp2_with fail
  refine (behind_any _ (1 + L + A) A D (by omega)).mono ?_
  rintro x w' ⟨rfl, rfl⟩
  go_wp2_with fail
  refine bodyPost_ret (v := .agg (layoutC L A D)) (by simp [results, Tryz.results35, go_sem, layoutC]) rfl ⟨rfl, ?_⟩
  exact ((((((((Ex.refl [] w).alloc _).alloc _).alloc _).alloc _).alloc _).alloc _).alloc _).alloc _

theorem right_ok {L A D : Nat} (hs : shapeOk L A D) : rightS L A D = true := by
  obtain ⟨hL, hA, hD, hT⟩ := hs
  simp only [rightS, decide_eq_true_eq]
  omega
theorem right_of {L A D : Int} (h : rightS L A D = true) : ∃ l a d : Nat, L = l ∧ A = a ∧ D = d ∧ shapeOk l a d := by
  simp only [rightS, decide_eq_true_eq] at h
  exact ⟨L.toNat, A.toNat, D.toNat, by omega, by omega, by omega, by unfold shapeOk; omega⟩

theorem field_data (a b c d e f g h : Value) (w : World) : (Instr.field 85 (.agg #[a, b, c, d, e, f, g, h]) 2).run Tryz.prog w = .ok (.agg #[g, h]) w := by kernel_rfl
theorem field_first (a b : Int) (w : World) : (Instr.field 82 (.agg #[.int .i64 a, .int .i64 b]) 0).run Tryz.prog w = .ok (.int .i64 a) w := by kernel_rfl
theorem field_stat (a b c : Int) (e : Bool) (w : World) : (Instr.field 146 (.agg #[.int .i64 a, .int .i64 b, .int .i64 c, .bool e]) 0).run Tryz.prog w = .ok (.int .i64 a) w := by kernel_rfl

/-- How many sectors a shape has. -/
def sectorsS (L A D : Nat) : Nat := 1 + L + A + A + D

set_option maxRecDepth 100000 in
set_option maxHeartbeats 2000000 in
theorem Sectors_any (w : World) (L A D : Nat) (hs : shapeOk L A D) :
    Calls Tryz.prog 10 #[.agg #[.int .i64 L, .int .i64 A, .int .i64 D]] w fun x w' => x = .returned (.int .i64 (sectorsS L A D)) ∧ Ex [] w w' := by
  have HS := Lib.hid hs
  have hfd := field_data
  have hff := field_first
  obtain ⟨hL, hA, hD, hT⟩ := hs
  go_enter Tryz.func10, Tryz.ntmps10
  go_wp2_with fail
  refine (Right_any _ L A D (by omega) (by omega) (by omega)).mono ?_
  rintro x w1 ⟨rfl, hx1⟩
  rw [right_ok HS.out]
  have c1 := fun j v h => hx1.cell (p := ⟨w.heap.size, j, none⟩) (v := v) (by simp) h
  have c10 := c1 0 _ (by rw [cell_of_block (heap_alloc_new w _)]; rfl)
  have c11 := c1 1 _ (by rw [cell_of_block (heap_alloc_new w _)]; rfl)
  have c12 := c1 2 _ (by rw [cell_of_block (heap_alloc_new w _)]; rfl)
  clear c1
  have HX1 := Lib.hid (((Ex.refl [] w).alloc (.cells #[.int .i64 L, .int .i64 A, .int .i64 D] 23)).pure hx1)
  clear hx1
  go_wp2_with fail
  refine (laid_any _ L A D HS.out).mono ?_
  rintro x w2 ⟨rfl, hx2⟩
  have HX2 := Lib.hid hx2
  clear hx2
  unfold layoutC
  go_wp2_with fail
  refine (behind_any _ (1 + L + A + A) D 0 (by omega)).mono ?_
  rintro x w3 ⟨rfl, rfl⟩
  go_wp2_with fail
  go_ret
  refine ⟨?_, ((HX1.out.pure HX2.out).alloc _).alloc _⟩
  simp [sectorsS]
end Go.Proofs.YtckmpdplmpgniaaGreat
