/- Contracts of the law's own functions: both, formatted and opened, at the chapter's example. No condition but ranges. -/
import Derived.Test.YtckmpdplmpgniaaGreatLawA
namespace Go.Proofs.YtckmpdplmpgniaaGreat
open Go Go.RowKit

/-- The example's device, formatted. -/
def dev6 : Dv := (newDv 6).format.2

theorem dev6_st : (newDv 6).format.1 = 0 ∧ dev6.down = false ∧ dev6.pend = [] ∧ dev6.fuse = 0 ∧ St dev6.kept 2 1 1 ⟨0, 0, 0, 1⟩ [] [] := format_st (by decide)

theorem dev6_kept : dev6.kept.length = 6 := by kernel_rfl

theorem format6 (w : World) (D : Nat) (F : List Nat) (hd : DevAt w D F (newDv 6)) :
    Calls Tryz.prog 11 #[.pointer (some ⟨D, 0, none⟩), .agg #[.int .i64 2, .int .i64 1, .int .i64 1]] w fun x w' => x = .returned (.int .i64 0) ∧ DevTo w D F dev6 w' := by
  refine (Format_good w D F (newDv 6) 2 1 1 ex_ok hd (by simp [newDv, sectorsS]) (by simp [newDv])).mono ?_
  rintro x w' ⟨rfl, h⟩
  rw [dev6_st.1]
  exact ⟨rfl, h⟩

set_option maxRecDepth 100000 in
set_option maxHeartbeats 8000000 in
theorem begin_ex (w : World) :
    Calls Tryz.prog 31 #[.agg #[.int .i64 2, .int .i64 1, .int .i64 1], .int .i64 0] w fun x w' => ∃ P D E J R F, x = .returned (.pointer (some ⟨P, 0, none⟩)) ∧ Bt w' P D E (.pointer (some ⟨J, 0, none⟩)) (.pointer (some ⟨R, 0, none⟩)) ∧ JnAt w' J D ⟨0, 0, 0, 1⟩ 2 1 1 false ∧ DevAt w' D F dev6 ∧ J ∉ F ∧ P ∉ F ∧ P ≠ J ∧ w.heap.size ≤ P ∧ w.heap.size ≤ J ∧ (∀ k ∈ F, w.heap.size ≤ k) ∧ Ex [] w w' := by
  have hS := rSectors_any
  unfold exShape at hS
  have HS := Lib.hid hS
  clear hS
  go_enter Tryz.func31, Tryz.ntmps31
  go_wp2_with fail
  refine (HS.out _).mono ?_
  rintro x w1 ⟨rfl, hw1⟩
  have hx1 : Ex [] (w.alloc (.cells #[.int .i64 2, .int .i64 1, .int .i64 1] 23)) w1 := by rw [hw1]; exact ((Ex.refl [] _).alloc _).alloc _
  have hb1 := hx1.obj (heap_alloc_new w (.cells #[.int .i64 2, .int .i64 1, .int .i64 1] 23)) (by simp)
  have H1 := Lib.hid (And.intro (((Ex.refl [] w).alloc _).pure hx1) hb1)
  clear hw1 hx1 hb1
  go_wp2_with fail
  refine (New_good w1 6 (by decide) (by decide)).mono ?_
  rintro x w2 ⟨D, F, rfl, hd2, hF2, hx2⟩
  have H2 := Lib.hid (And.intro (H1.out.1.pure hx2) (And.intro (hx2.obj H1.out.2 (by simp)) (And.intro hd2 hF2)))
  clear hd2 hF2 hx2
  go_wp2_with fail
  refine (rNew_ex w2).mono ?_
  rintro x w3 ⟨E, FE, rfl, hr3, hFE, hx3⟩
  have hb3 := hx3.obj H2.out.2.1 (by simp)
  have hD3 := H2.out.2.2.1.pure hx3
  have q0 : w3.cell? ⟨w.heap.size, 0, none⟩ = some (.int .i64 2) := (cell_of_block hb3).trans rfl
  have q1 : w3.cell? ⟨w.heap.size, 1, none⟩ = some (.int .i64 1) := (cell_of_block hb3).trans rfl
  have q2 : w3.cell? ⟨w.heap.size, 2, none⟩ = some (.int .i64 1) := (cell_of_block hb3).trans rfl
  have H3 := Lib.hid (And.intro (H2.out.1.pure hx3) (And.intro hb3 (And.intro hD3 (And.intro hr3 (And.intro hFE hx3)))))
  clear hb3 hD3 hr3 hFE hx3
  go_wp2_with fail
  have hx4 : Ex [] w3 (w3.alloc (.cells #[.int .i64 2, .int .i64 1, .int .i64 1, .pointer (some ⟨D, 0, none⟩), .pointer none, .pointer (some ⟨E, 0, none⟩), .pointer none] 71)) := (Ex.refl [] w3).alloc _
  have hb4 : Bt (w3.alloc (.cells #[.int .i64 2, .int .i64 1, .int .i64 1, .pointer (some ⟨D, 0, none⟩), .pointer none, .pointer (some ⟨E, 0, none⟩), .pointer none] 71)) w3.heap.size D E (.pointer none) (.pointer none) := heap_alloc_new w3 _
  have H4 := Lib.hid (And.intro hx4 hb4)
  have hP := lt_of_block hb4
  have q0' := hx4.cell (by simp) q0
  have q1' := hx4.cell (by simp) q1
  have q2' := hx4.cell (by simp) q2
  clear hx4 hb4 q0 q1 q2
  generalize w3.alloc (.cells #[.int .i64 2, .int .i64 1, .int .i64 1, .pointer (some ⟨D, 0, none⟩), .pointer none, .pointer (some ⟨E, 0, none⟩), .pointer none] 71) = w4 at *
  have hT : w4.drew.cell? ⟨w.heap.size, 0, none⟩ = some (.int .i64 2) ∧ w4.drew.cell? ⟨w.heap.size, 1, none⟩ = some (.int .i64 1) ∧ w4.drew.cell? ⟨w.heap.size, 2, none⟩ = some (.int .i64 1) := ⟨q0', q1', q2'⟩
  clear q0' q1' q2'
  refine wp_region_L 11 (fun w' => w'.cell? ⟨w.heap.size, 0, none⟩ = some (.int .i64 2) ∧ w'.cell? ⟨w.heap.size, 1, none⟩ = some (.int .i64 1) ∧ w'.cell? ⟨w.heap.size, 2, none⟩ = some (.int .i64 1)) (by kernel_rfl) ?_
  refine wpL_take (i := 0) (oi := ⟨some 36, _, _, _, _, _⟩) (v := (.pointer (some ⟨D, 0, none⟩))) rfl (by kernel_rfl) (by kernel_rfl) (by kernel_rfl) (by kernel_rfl) (by decide) (fun _ _ _ h => h) (Or.inl ⟨by rfl, by intro w hSw; go_simp⟩) hT ?_
  try simp only [Act.put, List.setIfInBounds_toArray, List.set_cons_zero, List.set_cons_succ]
  refine wpL_take (i := 1) (oi := ⟨some 37, _, _, _, _, _⟩) (v := (.agg #[.int .i64 2, .int .i64 1, .int .i64 1])) rfl (by kernel_rfl) (by kernel_rfl) (by kernel_rfl) (by kernel_rfl) (by decide) (fun _ _ _ h => h) (Or.inl ⟨by rfl, by intro w hSw; go_simp⟩) hT ?_
  try simp only [Act.put, List.setIfInBounds_toArray, List.set_cons_zero, List.set_cons_succ]
  refine wpL_take (i := 3) (oi := ⟨some 39, _, _, _, _, _⟩) (v := (.pointer (some ⟨E, 0, none⟩))) rfl (by kernel_rfl) (by kernel_rfl) (by kernel_rfl) (by kernel_rfl) (by decide) (fun _ _ _ h => h) (Or.inl ⟨by rfl, by intro w hSw; go_simp⟩) hT ?_
  try simp only [Act.put, List.setIfInBounds_toArray, List.set_cons_zero, List.set_cons_succ]
  refine wpL_take (i := 4) (oi := ⟨some 40, _, _, _, _, _⟩) (v := (.agg #[.int .i64 2, .int .i64 1, .int .i64 1])) rfl (by kernel_rfl) (by kernel_rfl) (by kernel_rfl) (by kernel_rfl) (by decide) (fun _ _ _ h => h) (Or.inl ⟨by rfl, by intro w hSw; go_simp⟩) hT ?_
  try simp only [Act.put, List.setIfInBounds_toArray, List.set_cons_zero, List.set_cons_succ]
  refine wpL_ready (rs := [2]) (by kernel_rfl) (by simp) ?_
  refine AllNext.cons (o := _) rfl (fun K hK => ?_) AllNext.nil
  go_simp
  refine (format6 w4.drew D F (H3.out.2.2.1.pure H4.out.1.drew)).mono ?_
  rintro x w5 ⟨rfl, F5, hd5, hs5, hx5⟩
  have hwF : ∀ k ∈ F, w.heap.size < k := fun k hk => by
    have h0 := H2.out.2.2.2 k hk
    have h1 := lt_of_block H1.out.2
    omega
  have hx45 : Ex F w4 w5 := ((Ex.refl F w4).drew).trans hx5 (Sw.refl _ _)
  have hT5 : w5.cell? ⟨w.heap.size, 0, none⟩ = some (.int .i64 2) ∧ w5.cell? ⟨w.heap.size, 1, none⟩ = some (.int .i64 1) ∧ w5.cell? ⟨w.heap.size, 2, none⟩ = some (.int .i64 1) := by
    have hni : w.heap.size ∉ F := fun hm => by have := hwF _ hm; omega
    exact ⟨hx5.cell hni hT.1, hx5.cell hni hT.2.1, hx5.cell hni hT.2.2⟩
  have H5 := Lib.hid (And.intro hd5 (And.intro (show Sw w4 F F5 from hs5) (And.intro hx45 hwF)))
  clear hd5 hs5 hx5 hx45 hwF
  refine hK.out _ _ (fun _ => hT5) ?_
  try simp only [Act.put, List.setIfInBounds_toArray, List.set_cons_zero, List.set_cons_succ]
  clear hK K
  refine wpL_ready (rs := [5]) (by kernel_rfl) (by simp) ?_
  refine AllNext.cons (o := _) rfl (fun K hK => ?_) AllNext.nil
  go_simp
  have hoff : ∀ k ∈ FE, k ∉ F := fun k hk hm => by
    have h0 := H2.out.2.2.1.lt k hm
    have h1 := H3.out.2.2.2.2.1 k hk
    omega
  have hrf := rFormat_ex w5 E FE (((H3.out.2.2.2.1.pure H4.out.1).ex H5.out.2.2.1 hoff))
  unfold exShape at hrf
  refine hrf.mono ?_
  clear hrf
  rintro x w6 ⟨rfl, FE6, hr6, hs6, hx6⟩
  have hwE : ∀ k ∈ FE, w2.heap.size ≤ k := H3.out.2.2.2.2.1
  have hT6 : w6.cell? ⟨w.heap.size, 0, none⟩ = some (.int .i64 2) ∧ w6.cell? ⟨w.heap.size, 1, none⟩ = some (.int .i64 1) ∧ w6.cell? ⟨w.heap.size, 2, none⟩ = some (.int .i64 1) := by
    have hni : w.heap.size ∉ FE := fun hm => by have h0 := hwE _ hm; have h1 := lt_of_block H2.out.2.1; omega
    exact ⟨hx6.cell hni hT5.1, hx6.cell hni hT5.2.1, hx6.cell hni hT5.2.2⟩
  have hF5 : ∀ k ∈ F5, k ∈ F ∨ w4.heap.size ≤ k := H5.out.2.1
  have hd6 : DevAt w6 D F5 dev6 := H5.out.1.ex hx6 (fun k hk hm => by
    rcases hF5 k hk with h | h
    · exact hoff k hm h
    · have h0 := H3.out.2.2.2.1.lt k hm
      have h1 := H4.out.1.size
      omega)
  have hb6 : Bt w6 w3.heap.size D E (.pointer none) (.pointer none) := by
    refine hx6.obj (H5.out.2.2.1.obj H4.out.2 (fun hm => ?_)) (fun hm => ?_)
    · have h0 := H3.out.2.2.1.lt _ hm; omega
    · have h0 := H3.out.2.2.2.1.lt _ hm; omega
  have hx06 : Ex [] w w6 := by
    have hx04 : Ex [] w w4 := H3.out.1.pure H4.out.1
    refine (hx04.off H5.out.2.2.1 (fun k hk => by have := H5.out.2.2.2 k hk; omega)).off hx6 (fun k hk => ?_)
    have h0 := hwE k hk
    have h1 := H2.out.1.size
    omega
  have H6 := Lib.hid (And.intro hd6 (And.intro hb6 (And.intro hr6 (And.intro hx06 (And.intro H5.out.1.lt hx6.size)))))
  clear hd6 hb6 hr6 hx06 hs6 hx6 hF5 hoff hwE
  refine hK.out _ _ (fun _ => hT6) ?_
  try simp only [Act.put, List.setIfInBounds_toArray, List.set_cons_zero, List.set_cons_succ]
  clear hK K
  refine wpL_take (i := 6) (oi := ⟨some 42, _, _, _, _, _⟩) (v := (.bool false)) rfl (by kernel_rfl) (by kernel_rfl) (by kernel_rfl) (by kernel_rfl) (by decide) (fun _ _ _ h => h) (Or.inl ⟨by rfl, by intro w hSw; go_simp⟩) hT6 ?_
  try simp only [Act.put, List.setIfInBounds_toArray, List.set_cons_zero, List.set_cons_succ]
  refine wpL_take (i := 7) (oi := ⟨some 43, _, _, _, _, _⟩) (v := (.bool false)) rfl (by kernel_rfl) (by kernel_rfl) (by kernel_rfl) (by kernel_rfl) (by decide) (fun _ _ _ h => h) (Or.inl ⟨by rfl, by intro w hSw; go_simp⟩) hT6 ?_
  try simp only [Act.put, List.setIfInBounds_toArray, List.set_cons_zero, List.set_cons_succ]
  refine wpL_take (i := 8) (oi := ⟨some 44, _, _, _, _, _⟩) (v := (.pointer (some ⟨w3.heap.size, 0, none⟩))) rfl (by kernel_rfl) (by kernel_rfl) (by kernel_rfl) (by kernel_rfl) (by decide) (fun _ _ _ h => h) (Or.inl ⟨by rfl, by intro w hSw; go_simp⟩) hT6 ?_
  try simp only [Act.put, List.setIfInBounds_toArray, List.set_cons_zero, List.set_cons_succ]
  refine wpL_ready (rs := [9]) (by kernel_rfl) (by simp) ?_
  refine AllNext.cons (o := _) rfl (fun K hK => ?_) AllNext.nil
  go_simp
  refine (opened_ex w6 w3.heap.size D E 2 _ _ F5 FE6 dev6 ⟨0, 0, 0, 1⟩ [] H6.out.2.1 H6.out.1 H6.out.2.2.1 dev6_st.2.1 (by rw [dev6_st.2.2.1]; simp) (by rw [dev6_kept]; decide) (dev6_st.2.2.2.2.shows ex_ok dev6_st.2.2.1).1).mono ?_
  rintro x w7 ⟨rfl, J, R, hb7, hj7, hJ7, hx7⟩
  have hT7 : w7.cell? ⟨w.heap.size, 0, none⟩ = some (.int .i64 2) ∧ w7.cell? ⟨w.heap.size, 1, none⟩ = some (.int .i64 1) ∧ w7.cell? ⟨w.heap.size, 2, none⟩ = some (.int .i64 1) := by
    have hni : w.heap.size ∉ [w3.heap.size] := fun hm => by simp at hm; have h1 := lt_of_block H3.out.2.1; omega
    exact ⟨hx7.cell hni hT6.1, hx7.cell hni hT6.2.1, hx7.cell hni hT6.2.2⟩
  have H7 := Lib.hid (And.intro hb7 (And.intro hj7 (And.intro hJ7 hx7)))
  clear hb7 hj7 hJ7 hx7
  refine hK.out _ _ (fun _ => hT7) ?_
  try simp only [Act.put, List.setIfInBounds_toArray, List.set_cons_zero, List.set_cons_succ]
  clear hK K
  refine wpL_take (i := 10) (oi := ⟨some 46, _, _, _, _, _⟩) (v := (.bool false)) rfl (by kernel_rfl) (by kernel_rfl) (by kernel_rfl) (by kernel_rfl) (by decide) (fun _ _ _ h => h) (Or.inl ⟨by rfl, by intro w hSw; go_simp⟩) hT7 ?_
  try simp only [Act.put, List.setIfInBounds_toArray, List.set_cons_zero, List.set_cons_succ]
  refine wpL_ready (rs := [11]) (by kernel_rfl) (by simp) ?_
  refine AllNext.cons (o := _) rfl (fun K hK => ?_) AllNext.nil
  go_simp
  refine hK.out _ _ (fun h => absurd h (by decide)) ?_
  clear hK K
  refine wpL_done (by kernel_rfl) ?_ _
  go_wp2_with fail
  go_ret
  have hPF : w3.heap.size ∉ F5 := fun hm => by
    rcases H5.out.2.1 _ hm with h | h
    · have h0 := H3.out.2.2.1.lt _ h; omega
    · omega
  have hF5w : ∀ k ∈ F5, w.heap.size ≤ k := fun k hk => by
    rcases H5.out.2.1 k hk with h | h
    · have := H5.out.2.2.2 k h; omega
    · have h0 := H3.out.1.size; have h1 := H4.out.1.size; omega
  have h63 : w.heap.size ≤ w3.heap.size := H3.out.1.size
  have hJ6 : w6.heap.size ≤ J := H7.out.2.2.1
  have hJF : J ∉ F5 := fun hm => by have h0 := H6.out.1.lt _ hm; omega
  have hPlt : w3.heap.size < w6.heap.size := lt_of_block H6.out.2.1
  refine ⟨w3.heap.size, D, E, J, R, F5, rfl, H7.out.1, H7.out.2.1, H6.out.1.ex H7.out.2.2.2 (fun k hk hm => by simp at hm; subst hm; exact hPF hk), hJF, hPF, by omega, h63, by omega, hF5w, H6.out.2.2.2.1.off H7.out.2.2.2 (fun k hk => by simp at hk; omega)⟩
end Go.Proofs.YtckmpdplmpgniaaGreat
