/- Contracts of package dev: what there is to say; all that is kept. No condition but sizes. -/
import Derived.Test.YtckmpdplmpgniaaGreatDevA
import Derived.Test.YtckmpdplmpgniaaGreatCodeA
import Derived.Deep.RegionHeld3
import Derived.Deep.DeepCutAuto
namespace Go.Proofs.YtckmpdplmpgniaaGreat
open Go Go.RowKit

set_option maxRecDepth 100000 in
set_option maxHeartbeats 2000000 in
theorem Stat_any (w : World) (D : Nat) (F : List Nat) (d : Dv) (h : DevAt w D F d) :
    Calls Tryz.prog 71 #[.pointer (some ⟨D, 0, none⟩)] w fun x w' => (∃ dd : Int, x = .returned (.agg #[.int .i64 d.kept.length, .int .i64 d.pend.length, .int .i64 dd, .bool d.down])) ∧ Ex [] w w' := by
  obtain ⟨dd, kb, kc, pa, pc, c0, c1, c2, c3, c4, hf⟩ := h.cells
  have HD := Lib.hid h
  have e0 := World.new_ne w _ c0
  have e2 := World.new_ne w _ c2
  have e3 := World.new_ne w _ c3
  have e4 := World.new_ne w _ c4
  clear hf c1 h
  go_enter Tryz.func71, Tryz.ntmps71
  go_wp2_with (go_at_call 49; refine (none_any _ D F d (HD.out.pure ((Ex.refl [] w).alloc _))).mono ?_; rintro x w' ⟨rfl, rfl⟩)
  go_region_held3 (fun w' => w'.cell? ⟨D, 0, none⟩ = some (.int .i64 dd) ∧ w'.cell? ⟨D, 2, none⟩ = some (.bool d.down) ∧ w'.cell? ⟨D, 3, none⟩ = some (.slice (some ⟨kb, 0, none⟩) d.kept.length kc) ∧ w'.cell? ⟨D, 4, none⟩ = some (.slice pa d.pend.length pc)) (go_keep) (first | fail)
  go_wp2
  exact bodyPost_ret (v := .agg #[.int .i64 d.kept.length, .int .i64 d.pend.length, .int .i64 dd, .bool d.down]) (by simp [results, Tryz.results71, go_sem]) rfl ⟨⟨_, rfl⟩, ((Ex.refl _ _).alloc _).drew⟩

/-- All that is kept, as bytes. -/
def Dv.all (d : Dv) : List UInt8 := d.kept.flatMap id

theorem all_take (l : List (List UInt8)) (k : Nat) (hk : k < l.length) : (l.take (k + 1)).flatMap id = (l.take k).flatMap id ++ l[k] := by
  rw [List.take_succ_eq_append_getElem hk, List.flatMap_append]; simp

theorem all_length (l : List (List UInt8)) (h : ∀ s ∈ l, s.length = 64) : (l.flatMap id).length = 64 * l.length := by
  induction l with
  | nil => rfl
  | cons x l ih => have := ih (fun s hs => h s (by simp [hs])); have := h x (by simp); simp_all; omega

set_option maxRecDepth 100000 in
set_option maxHeartbeats 2000000 in
theorem Kept_any (w : World) (D : Nat) (F : List Nat) (d : Dv) (h : DevAt w D F d) :
    Calls Tryz.prog 20 #[.pointer (some ⟨D, 0, none⟩)] w fun x w' => ∃ v n, x = .returned v ∧ n = d.all.length ∧ Own w' 5 1 v n (encB d.all) ∧ Ex [] w w' := by
  obtain ⟨dd, kb, kc, pa, pc, c0, c1, c2, c3, c4, hf⟩ := h.cells
  have HD := Lib.hid h
  have hk1 := h.1.2.1
  have HL64 := Lib.hid h.1.2.2.1
  have HC := Lib.hid c3
  clear hf c1 h c0 c2 c4
  go_enter Tryz.func20, Tryz.ntmps20
  go_wp2_with (go_at_call 49; refine (none_any _ D F d HD.out).mono ?_; rintro x w' ⟨rfl, rfl⟩)
  go_loopw [2, 11] (fun v i wr => ∃ k : Nat, k ≤ d.kept.length ∧ i = .int .i64 k ∧ (∃ a cap, v = .slice a (64 * k) cap) ∧ Hid (Own wr 5 1 v (64 * k) (encB ((d.kept.take k).flatMap id)) ∧ Ex [] w wr ∧ ∀ j ∈ bk v, w.heap.size ≤ j)) (fun _ i _ => d.kept.length - (intOf i).toNat)
  case atStart => exact ⟨0, by omega, rfl, ⟨none, 0, rfl⟩, World.ownsRow_nil _ _ _ _, Ex.refl _ _, by simp [bk, Value.ownBlock]⟩
  case round =>
    obtain ⟨k, hk, rfl, ⟨a, cap, rfl⟩, hown⟩ := hrel
    have d3 : wr.cell? ⟨D, 3, none⟩ = some (.slice (some ⟨kb, 0, none⟩) d.kept.length kc) := hown.out.2.1.cell (by simp) HC.out
    by_cases hlt : k < d.kept.length
    · obtain ⟨s1, s2, s3⟩ := (HD.out.pure hown.out.2.1).sector d3 k hlt
      have HS := Lib.hid s1
      have HT := Lib.hid (all_take d.kept k hlt)
      clear s1 c3
      generalize d.kept[k] = b at *
      go_wp2_with (at_builtin; go_loud (refine wpList_app _ rfl _ _ 37 rfl Tryz.underlying37 info_u8 rfl (by decide) (.slice a (64 * k) cap) (64 * k) _ rfl hown.out.1 (.slice (some ⟨kb, k * 64, none⟩) 64 64) 64 (encB b) rfl HS.out (encB_oneCell b) (by unfold maxLen; omega) (by omega) ?_); intro a' cap' w1 hown' hgrow hsw hnl)
      go_roundw
      case rel =>
        have ho := hown.out
        have e : 64 * (k + 1) = 64 * k + 64 := by omega
        refine ⟨k + 1, by omega, by go_num, ⟨a', cap', by rw [e]⟩, ?_, ho.2.1.grown hgrow (fun i hi => .inr (ho.2.2 i (by simp [bk, hi]))), ?_⟩
        · rw [HT.out, encB_append, e]
          exact hown'
        · intro j hj
          rcases hsw j hj with h | h
          · exact ho.2.2 j h
          · rw [h]; exact ho.2.1.size
      case measure => simp [intOf]; omega
    · go_wp2_with fail
      go_ret
      have ho := hown.out
      have hl := all_length d.kept HL64.out
      obtain rfl : k = d.kept.length := by omega
      rw [List.take_length] at ho
      exact ⟨_, _, rfl, hl.symm, ho.1, ho.2.1⟩
end Go.Proofs.YtckmpdplmpgniaaGreat
