/- Contracts of package dev: the pending writes, the latest first. No condition but sizes. -/
import Derived.Test.YtckmpdplmpgniaaGreatDevF
import Derived.Test.YtckmpdplmpgniaaGreatCodeB
import Derived.RangeFuncNested
import Derived.RangeFuncBound
import Derived.RangeFuncCalls
import Derived.RangeFuncLeaves
import Derived.RangeFuncFrom
import Derived.Shelf.Abstract
import Derived.Shelf.RegionOpen
import Derived.OwnWalkIn
import Derived.TacticsInMore
import Derived.LoopNIn
import Derived.LoopIn
namespace Go.Proofs.YtckmpdplmpgniaaGreat
open Go Go.RowKit Go.Shelf

set_option maxRecDepth 100000 in
set_option maxHeartbeats 400000 in
theorem SClone_any (w : World) (l : List UInt8) (ad : Addr) (cap : Nat) (hv : RdB w (.slice (some ad) l.length cap) l) (hl : l.length ≤ 1000000000) :
    Calls Tryz.prog 77 #[.slice (some ad) l.length cap] w fun e w' => ∃ a cap', e = .returned (.slice a l.length cap') ∧ Own w' 5 1 (.slice a l.length cap') l.length (encB l) ∧ Ex [] w w' ∧ (∀ k ∈ bk (.slice a l.length cap'), w.heap.size ≤ k) := by
  have HV := Lib.hid hv
  clear hv
  have q := Lib.run_eql_slice_nil (P := Tryz.prog) w 37 5 (some ad) l.length cap 0 0 Tryz.underlying37
  go_enter Tryz.func77, Tryz.ntmps77
  go_wp2_with (at_builtin; go_loud (refine wpList_app _ rfl _ _ 37 rfl Tryz.underlying37 info_u8 rfl (by decide) (.slice (some ⟨w.heap.size, 0, none⟩) 0 0) 0 _ rfl (own_new w #[] _ 1 0 rfl (by decide)) (.slice (some ad) l.length cap) l.length _ rfl (HV.out.pure ((Ex.refl [] w).alloc _)) (encB_oneCell l) (by unfold maxLen; omega) (by omega) ?_); intro a' cap' w1 hown' hgrow hsw hnl)
  go_ret
  simp only [Nat.zero_add, List.nil_append] at hown' hsw
  refine ⟨a', cap', rfl, hown', ((Ex.refl [] w).alloc _).grown hgrow (by simp [Value.ownBlock]), ?_⟩
  intro k hk
  rcases hsw k hk with h | h
  · simp [bk, Value.ownBlock] at h; omega
  · rw [h]; simp

theorem SClone_64 (w : World) (l : List UInt8) (ad : Addr) (cap : Nat) (hv : Rd w 1 (.slice (some ad) l.length cap) l.length (encB l)) (hl : l.length = 64) :
    Calls Tryz.prog 77 #[.slice (some ad) 64 cap] w fun e w' => ∃ a cap', e = .returned (.slice a 64 cap') ∧ Own w' 5 1 (.slice a 64 cap') 64 (encB l) ∧ Ex [] w w' ∧ (∀ k ∈ bk (.slice a 64 cap'), w.heap.size ≤ k) := by
  have := SClone_any w l ad cap hv (by omega)
  rw [hl] at this
  exact this

/-- The first j that come, of so many: the latest first. -/
def latestOf (P j : Nat) : List Nat := (List.range j).map fun i => P - 1 - i

theorem latestOf_succ (P j : Nat) : latestOf P (j + 1) = latestOf P j ++ [P - 1 - j] := by simp [latestOf, List.range_succ]

attribute [local go_sem] Oper.semAt_some

set_option maxRecDepth 100000 in
set_option maxHeartbeats 2000000 in
theorem latest_in (F : Fence) (n : Nat) (hF : F.fn 105) (hro : F.round = none) (hn : 1 ≤ n) (l Bn D n₀ pb P pc : Nat) (pa : Option Addr) (hP : P ≤ 1000000) (hpa : 0 < P → pa = some ⟨pb, 0, none⟩) (hBn : Bn < n₀) (hD : D < n₀) (J Jx : List (Fin P) → World → Prop)
    (hY : ∀ pre x W, J pre W → pre.length < P → YieldAt F (n - 1) Tryz.prog l #[.pointer (some ⟨pb, x.1 * 65, none⟩)] W fun e W' =>
      (e = .returned (.bool true) ∧ J (pre ++ [x]) W' ∧ Below n₀ W W') ∨ (e = .returned (.bool false) ∧ Jx (pre ++ [x]) W'))
    (W : World) (hB : W.cell? ⟨Bn, 0, none⟩ = some (.pointer (some ⟨D, 0, none⟩))) (hc : W.cell? ⟨D, 4, none⟩ = some (.slice pa P pc)) (h0 : J [] W) :
    CallsIn F n Tryz.prog 105 #[.func (.yield l) #[] #[], .pointer (some ⟨Bn, 0, none⟩)] W fun e W' => (∃ v, e = .returned v) ∧
      ((∃ ys, ys.map Fin.val = latestOf P P ∧ J ys W') ∨ (∃ pre, (∃ k, k < P ∧ pre.map Fin.val = latestOf P (k + 1)) ∧ Jx pre W')) := by
  refine callsIn_of_wp Tryz.func105 rfl hF ?_ hro
  simp only [Tryz.ntmps105, List.size_toArray, List.length_cons, List.length_nil, Nat.reduceAdd, Nat.reduceSub, Array.replicate_succ, Array.replicate_zero, List.push_toArray, List.append_toArray, List.nil_append, List.cons_append]
  gi_wp2
  gi_loopw [3] (fun i wr => ∃ m : Nat, m ≤ P ∧ i = .int .i64 ((m : Int) - 1) ∧ (∃ pre, pre.map Fin.val = latestOf P (P - m) ∧ J pre wr) ∧ Below n₀ W wr)
    (fun i _ => (intOf i + 1).toNat)
  case atStart => exact ⟨P, Nat.le_refl _, rfl, ⟨[], by simp [latestOf], h0⟩, Below.refl _ _⟩
  case round =>
    obtain ⟨m, hm, rfl, ⟨pre, hpre, hJs⟩, hnx⟩ := hrel
    have b1 := (hnx.cell (p := ⟨Bn, 0, none⟩) hBn).trans hB
    have b2 := (hnx.cell (p := ⟨D, 4, none⟩) hD).trans hc
    clear hB hc
    cases m with
    | zero =>
      gi_wp2
      go_end0
      exact ⟨⟨_, rfl⟩, .inl ⟨pre, by simpa using hpre, hJs⟩⟩
    | succ k =>
      have ek : (((k + 1 : Nat) : Int) - 1) = (k : Int) := by omega
      rw [ek]
      obtain rfl := hpa (by omega)
      have es : latestOf P (P - k) = latestOf P (P - (k + 1)) ++ [k] := by
        rw [show P - k = (P - (k + 1)) + 1 from by omega, latestOf_succ, show P - 1 - (P - (k + 1)) = k from by omega]
      obtain ⟨fn, tmps, assign, body, hy, hR⟩ := hY pre ⟨k, by omega⟩ wr hJs (by have := congrArg List.length hpre; simp [latestOf] at this; omega)
      dsimp only at hy
      gi_wp2
      refine hR.mono ?_
      rintro e W3 (⟨rfl, hJ3, hk3⟩ | ⟨rfl, hJx3⟩)
      · gi_wp2
        go_roundw
        case rel => exact ⟨k, by omega, by simp, ⟨_, by rw [es, List.map_append, hpre]; rfl, hJ3⟩, hnx.trans hk3⟩
        case measure => simp [intOf]
      · gi_wp2
        refine bodyPost_ret (results_none rfl _ _ _) rfl ?_
        exact ⟨⟨_, rfl⟩, .inr ⟨_, ⟨P - (k + 1), by omega, by rw [show P - (k + 1) + 1 = P - k from by omega, es, List.map_append, hpre]; rfl⟩, hJx3⟩⟩
end Go.Proofs.YtckmpdplmpgniaaGreat
