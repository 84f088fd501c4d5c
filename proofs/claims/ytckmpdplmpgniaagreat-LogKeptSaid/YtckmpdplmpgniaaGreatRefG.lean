/- Contracts of the document's answer of layers 1, 5 at the chapter's example: a head is read. No condition but ranges. -/
import Derived.Test.YtckmpdplmpgniaaGreatRefD
import Derived.Deep.DeepCutAuto
namespace Go.Proofs.YtckmpdplmpgniaaGreat
open Go Go.RowKit

set_option maxRecDepth 100000 in
set_option maxHeartbeats 4000000 in
theorem rCNum_ex (w : World) (B g o n cap x : Nat) (most : Int) (hx : x = 0 ∨ x = 1) (hm : 1 ≤ most) (hb : w.heap[B]? = some (.cells #[.slice (some ⟨g, o, none⟩) n cap, .int .i64 0] 231 (0, 0))) (hn : 1 ≤ n) (hnc : n ≤ cap) (hc2 : 2 ≤ cap) (hcm : cap ≤ maxLen)
    (hg : w.cell? ⟨g, o, none⟩ = some (.int .u8 x)) :
    Calls Tryz.prog 143 #[.pointer (some ⟨B, 0, none⟩), .int .i64 most] w fun e w' => e = .returned (.int .i64 x) ∧ w'.heap[B]? = some (.cells #[.slice (some ⟨g, o + 1, none⟩) (n - 1) (cap - 1), .int .i64 0] 231 (0, 0)) ∧ Ex [B] w w' := by
  have HB := Lib.hid hb
  have c0 : w.cell? ⟨B, 0, none⟩ = some (.slice (some ⟨g, o, none⟩) n cap) := by rw [cell_of_block hb]; rfl
  have c1 : w.cell? ⟨B, 1, none⟩ = some (.int .i64 0) := by rw [cell_of_block hb]; rfl
  have hBlt := lt_of_block hb
  have d1 : decide ((0 : Int) < (n : Int)) = true := by simp; omega
  unfold maxLen at hcm
  clear hb
  have k1 : ((cap : Int) == 1) = false := by simp; omega
  have k2 : (1 : Int) ≤ (n : Int) := by omega
  have k3 : (n : Int) ≤ (cap : Int) := by omega
  rcases hx with rfl | rfl
  · simp only [Int.cast_ofNat_Int] at hg
    go_enter Tryz.func143, Tryz.ntmps143
    go_wp2_with fail
    refine wp_loop_rounds 1 ?_
    rw [rounds_succ]
    go_wp2_with fail
    refine (rNumber_small w 0 (by decide)).mono ?_
    rintro e w1 ⟨a1, cap1, rfl, ho1, hx1, _⟩
    have hb1 := hx1.obj HB.out (by simp)
    have e0 : w1.cell? ⟨B, 0, none⟩ = some (.slice (some ⟨g, o, none⟩) n cap) := by rw [cell_of_block hb1]; rfl
    have f0 : w1.frozen? ⟨B, 0, none⟩ = false := free_of_block hb1
    have H1 := Lib.hid (And.intro hx1 hb1)
    clear ho1 hx1 hb1 c0 c1 hg
    go_wp2_with fail
    go_ret
    refine ⟨rfl, block_setCell (j := 0) H1.out.2, H1.out.1.of_nil.trans ((Ex.refl [B] w1).setCell (.inl (by simp)) _) (Sw.refl _ _)⟩
  · simp only [Int.cast_ofNat_Int] at hg
    go_enter Tryz.func143, Tryz.ntmps143
    go_wp2_with fail
    refine wp_loop_rounds 1 ?_
    rw [rounds_succ]
    go_wp2_with fail
    refine (rNumber_small w 1 (by decide)).mono ?_
    rintro e w1 ⟨a1, cap1, rfl, ho1, hx1, _⟩
    have hb1 := hx1.obj HB.out (by simp)
    have e0 : w1.cell? ⟨B, 0, none⟩ = some (.slice (some ⟨g, o, none⟩) n cap) := by rw [cell_of_block hb1]; rfl
    have f0 : w1.frozen? ⟨B, 0, none⟩ = false := free_of_block hb1
    have H1 := Lib.hid (And.intro hx1 hb1)
    clear ho1 hx1 hb1 c0 c1 hg
    go_wp2_with fail
    go_ret
    refine ⟨rfl, block_setCell (j := 0) H1.out.2, H1.out.1.of_nil.trans ((Ex.refl [B] w1).setCell (.inl (by simp)) _) (Sw.refl _ _)⟩
end Go.Proofs.YtckmpdplmpgniaaGreat
/- Contracts of the document's answer of layer 5 at the chapter's example: a head, no records. No condition but ranges. -/
namespace Go.Proofs.YtckmpdplmpgniaaGreat
open Go Go.RowKit

theorem set4g {W : World} {g : Nat} {a b c d a' b' c' d' : Value} (h0 : W.cell? ⟨g, 0, none⟩ = some a) (h1 : W.cell? ⟨g, 1, none⟩ = some b) (h2 : W.cell? ⟨g, 2, none⟩ = some c) (h3 : W.cell? ⟨g, 3, none⟩ = some d) :
    ((((W.setCell ⟨g, 0, none⟩ a').setCell ⟨g, 1, none⟩ b').setCell ⟨g, 2, none⟩ c').setCell ⟨g, 3, none⟩ d').cell? ⟨g, 0, none⟩ = some a' ∧ ((((W.setCell ⟨g, 0, none⟩ a').setCell ⟨g, 1, none⟩ b').setCell ⟨g, 2, none⟩ c').setCell ⟨g, 3, none⟩ d').cell? ⟨g, 1, none⟩ = some b' ∧
    ((((W.setCell ⟨g, 0, none⟩ a').setCell ⟨g, 1, none⟩ b').setCell ⟨g, 2, none⟩ c').setCell ⟨g, 3, none⟩ d').cell? ⟨g, 2, none⟩ = some c' ∧ ((((W.setCell ⟨g, 0, none⟩ a').setCell ⟨g, 1, none⟩ b').setCell ⟨g, 2, none⟩ c').setCell ⟨g, 3, none⟩ d').cell? ⟨g, 3, none⟩ = some d' :=
  ⟨far_off (far_off (far_off (cell_set_same h0) (by decide)) (by decide)) (by decide), far_off (far_off (cell_set_same (far_off h1 (by decide))) (by decide)) (by decide), far_off (cell_set_same (far_off (far_off h2 (by decide)) (by decide))) (by decide), cell_set_same (far_off (far_off (far_off h3 (by decide)) (by decide)) (by decide))⟩

set_option maxRecDepth 100000 in
set_option maxHeartbeats 8000000 in
theorem headOf_ex (w : World) (a : Option Addr) (cap : Nat) (ho : Own w 5 1 (.slice a 64 cap) 64 (encB (pad64 [0, 0, 0, 1]))) :
    Calls Tryz.prog 125 #[.slice a 64 cap, .agg exShape] w fun x w' => x = .returned (.tuple #[.agg #[.int .i64 0, .int .i64 0, .int .i64 0, .int .i64 1], .bool true]) ∧ Ex [] w w' := by
  obtain ⟨g, rfl⟩ := own_some ho (by decide)
  obtain ⟨_, a', cap', hv, hc1, hc2, _⟩ := rd_of_owns ho
  simp only [Value.slice.injEq] at hv
  obtain ⟨rfl, _, rfl⟩ := hv
  obtain ⟨b, o, hbo, hcell⟩ := (rd_of_owns ho).at (by decide)
  cases hbo
  have q0 : w.cell? ⟨g, 0, none⟩ = some (.int .u8 0) := hcell 0 _ rfl
  have q1 : w.cell? ⟨g, 1, none⟩ = some (.int .u8 0) := hcell 1 _ rfl
  have q2 : w.cell? ⟨g, 2, none⟩ = some (.int .u8 0) := hcell 2 _ rfl
  have q3 : w.cell? ⟨g, 3, none⟩ = some (.int .u8 1) := hcell 3 _ rfl
  have hrest : ∀ k, k < 60 → w.cell? ⟨g, 4 + k, none⟩ = some (.int .u8 0) := by
    intro k hk
    have := hcell (4 + k) (.int .u8 0) (by
      rw [encB_get]
      have : (pad64 [0, 0, 0, 1])[4 + k]? = some 0 := by
        unfold pad64
        rw [List.getElem?_append_right (by simp)]
        rw [List.getElem?_replicate, if_pos (by simp; omega)]
      rw [this]; rfl)
    simpa using this
  have HR := Lib.hid hrest
  have hglt := lt_of_block_cell q0
  unfold exShape
  clear ho hcell hrest
  go_enter Tryz.func125, Tryz.ntmps125
  go_wp2_with fail
  have hx0 : Ex [] w (((w.alloc (.cells #[.int .i64 2, .int .i64 1, .int .i64 1] 23)).alloc (.cells #[.int .i64 0, .int .i64 0, .int .i64 0, .int .i64 0] 184)).alloc (.cells #[.slice (some ⟨g, 0, none⟩) 64 cap, .int .i64 0] 231)) := (((Ex.refl [] w).alloc _).alloc _).alloc _
  have hbc := heap_alloc_new ((w.alloc (.cells #[.int .i64 2, .int .i64 1, .int .i64 1] 23)).alloc (.cells #[.int .i64 0, .int .i64 0, .int .i64 0, .int .i64 0] 184)) (.cells #[.slice (some ⟨g, 0, none⟩) 64 cap, .int .i64 0] 231)
  have hbr := block_alloc (o := .cells #[.slice (some ⟨g, 0, none⟩) 64 cap, .int .i64 0] 231) (heap_alloc_new (w.alloc (.cells #[.int .i64 2, .int .i64 1, .int .i64 1] 23)) (.cells #[.int .i64 0, .int .i64 0, .int .i64 0, .int .i64 0] 184))
  have hbs := block_alloc (o := .cells #[.slice (some ⟨g, 0, none⟩) 64 cap, .int .i64 0] 231) (block_alloc (o := .cells #[.int .i64 0, .int .i64 0, .int .i64 0, .int .i64 0] 184) (heap_alloc_new w (.cells #[.int .i64 2, .int .i64 1, .int .i64 1] 23)))
  rw [show ((w.alloc (.cells #[.int .i64 2, .int .i64 1, .int .i64 1] 23)).alloc (.cells #[.int .i64 0, .int .i64 0, .int .i64 0, .int .i64 0] 184)).heap.size = w.heap.size + 1 + 1 from by simp] at hbc
  rw [show (w.alloc (.cells #[.int .i64 2, .int .i64 1, .int .i64 1] 23)).heap.size = w.heap.size + 1 from by simp] at hbr
  generalize ((w.alloc (.cells #[.int .i64 2, .int .i64 1, .int .i64 1] 23)).alloc (.cells #[.int .i64 0, .int .i64 0, .int .i64 0, .int .i64 0] 184)).alloc (.cells #[.slice (some ⟨g, 0, none⟩) 64 cap, .int .i64 0] 231) = W0 at *
  have H0 := Lib.hid (And.intro hx0 (And.intro hbc (And.intro hbr hbs)))
  have HQ := Lib.hid (And.intro q0 (And.intro q1 (And.intro q2 q3)))
  clear hbc hbr hbs hx0 q0 q1 q2 q3
  refine (rCNum_ex W0 (w.heap.size + 1 + 1) g 0 64 cap 0 1 (.inl rfl) (by decide) H0.out.2.1 (by decide) hc1 (by omega) hc2 (H0.out.1.cell (by simp) HQ.out.1)).mono ?_
  rintro e w1 ⟨rfl, hb1, hx1⟩
  have hlc : w.heap.size + 1 + 1 < w1.heap.size := lt_of_block hb1
  have hP : Ex [] w (w1.alloc (.cells #[.int .i64 0, .int .i64 0, .int .i64 0, .int .i64 0] 184)) ∧ (w1.alloc (.cells #[.int .i64 0, .int .i64 0, .int .i64 0, .int .i64 0] 184)).heap[w.heap.size + 1 + 1]? = some (.cells #[.slice (some ⟨g, 1, none⟩) 63 (cap - 1), .int .i64 0] 231 (0, 0)) ∧ (w1.alloc (.cells #[.int .i64 0, .int .i64 0, .int .i64 0, .int .i64 0] 184)).heap[w.heap.size + 1]? = some (.cells #[.int .i64 0, .int .i64 0, .int .i64 0, .int .i64 0] 184 (0, 0)) ∧ (w1.alloc (.cells #[.int .i64 0, .int .i64 0, .int .i64 0, .int .i64 0] 184)).heap[w.heap.size]? = some (.cells #[.int .i64 2, .int .i64 1, .int .i64 1] 23 (0, 0)) ∧ (w1.alloc (.cells #[.int .i64 0, .int .i64 0, .int .i64 0, .int .i64 0] 184)).heap[w1.heap.size]? = some (.cells #[.int .i64 0, .int .i64 0, .int .i64 0, .int .i64 0] 184 (0, 0)) := by
    refine ⟨(H0.out.1.off hx1 (by simp; omega)).alloc _, block_alloc hb1, block_alloc (hx1.obj H0.out.2.2.1 (by simp)), block_alloc (hx1.obj H0.out.2.2.2 (by simp; omega)), heap_alloc_new w1 _⟩
  have P1 := Lib.hid hP
  clear hb1 hx1 hP
  go_wp2_with fail
  generalize w1.alloc (.cells #[.int .i64 0, .int .i64 0, .int .i64 0, .int .i64 0] 184) = v1 at *
  refine (rCNum_ex v1 (w.heap.size + 1 + 1) g 1 63 (cap - 1) 0 1099511627776 (.inl rfl) (by decide) P1.out.2.1 (by decide) (by omega) (by omega) (by omega) (P1.out.1.cell (by simp) HQ.out.2.1)).mono ?_
  rintro e w2 ⟨rfl, hb, hx⟩
  have hH := hx.obj P1.out.2.2.2.2 (by simp; omega)
  have cH : w2.cell? ⟨w1.heap.size, 1, none⟩ = some (.int .i64 0) := by rw [cell_of_block hH]; rfl
  have fH : w2.frozen? ⟨w1.heap.size, 1, none⟩ = false := free_of_block hH
  have hP : Ex [] w (w2.setCell ⟨w1.heap.size, 1, none⟩ (.int .i64 0)) ∧ (w2.setCell ⟨w1.heap.size, 1, none⟩ (.int .i64 0)).heap[w.heap.size + 1 + 1]? = some (.cells #[.slice (some ⟨g, 2, none⟩) 62 (cap - 2), .int .i64 0] 231 (0, 0)) ∧ (w2.setCell ⟨w1.heap.size, 1, none⟩ (.int .i64 0)).heap[w.heap.size + 1]? = some (.cells #[.int .i64 0, .int .i64 0, .int .i64 0, .int .i64 0] 184 (0, 0)) ∧ (w2.setCell ⟨w1.heap.size, 1, none⟩ (.int .i64 0)).heap[w.heap.size]? = some (.cells #[.int .i64 2, .int .i64 1, .int .i64 1] 23 (0, 0)) ∧ (w2.setCell ⟨w1.heap.size, 1, none⟩ (.int .i64 0)).heap[w1.heap.size]? = some (.cells #[.int .i64 0, .int .i64 0, .int .i64 0, .int .i64 0] 184 (0, 0)) := by
    refine ⟨(P1.out.1.off hx (by simp; omega)).setCell (.inr (by simp; omega)) _, (block_other hb (by simp; omega)).trans (by rw [Nat.sub_sub]), block_other (hx.obj P1.out.2.2.1 (by simp)) (by simp; omega), block_other (hx.obj P1.out.2.2.2.1 (by simp; omega)) (by simp; omega), block_setCell hH⟩
  have P2 := Lib.hid hP
  clear hb hx hP hH
  go_wp2_with fail
  clear cH fH
  generalize w2.setCell ⟨w1.heap.size, 1, none⟩ (.int .i64 0) = v2 at *
  refine (rCNum_ex v2 (w.heap.size + 1 + 1) g 2 62 (cap - 2) 0 1099511627776 (.inl rfl) (by decide) P2.out.2.1 (by decide) (by omega) (by omega) (by omega) (P2.out.1.cell (by simp) HQ.out.2.2.1)).mono ?_
  rintro e w3 ⟨rfl, hb, hx⟩
  have hH := hx.obj P2.out.2.2.2.2 (by simp; omega)
  have cH : w3.cell? ⟨w1.heap.size, 2, none⟩ = some (.int .i64 0) := by rw [cell_of_block hH]; rfl
  have fH : w3.frozen? ⟨w1.heap.size, 2, none⟩ = false := free_of_block hH
  have hP : Ex [] w (w3.setCell ⟨w1.heap.size, 2, none⟩ (.int .i64 0)) ∧ (w3.setCell ⟨w1.heap.size, 2, none⟩ (.int .i64 0)).heap[w.heap.size + 1 + 1]? = some (.cells #[.slice (some ⟨g, 3, none⟩) 61 (cap - 3), .int .i64 0] 231 (0, 0)) ∧ (w3.setCell ⟨w1.heap.size, 2, none⟩ (.int .i64 0)).heap[w.heap.size + 1]? = some (.cells #[.int .i64 0, .int .i64 0, .int .i64 0, .int .i64 0] 184 (0, 0)) ∧ (w3.setCell ⟨w1.heap.size, 2, none⟩ (.int .i64 0)).heap[w.heap.size]? = some (.cells #[.int .i64 2, .int .i64 1, .int .i64 1] 23 (0, 0)) ∧ (w3.setCell ⟨w1.heap.size, 2, none⟩ (.int .i64 0)).heap[w1.heap.size]? = some (.cells #[.int .i64 0, .int .i64 0, .int .i64 0, .int .i64 0] 184 (0, 0)) := by
    refine ⟨(P2.out.1.off hx (by simp; omega)).setCell (.inr (by simp; omega)) _, (block_other hb (by simp; omega)).trans (by rw [Nat.sub_sub]), block_other (hx.obj P2.out.2.2.1 (by simp)) (by simp; omega), block_other (hx.obj P2.out.2.2.2.1 (by simp; omega)) (by simp; omega), block_setCell hH⟩
  have P3 := Lib.hid hP
  clear hb hx hP hH
  go_wp2_with fail
  clear cH fH
  generalize w3.setCell ⟨w1.heap.size, 2, none⟩ (.int .i64 0) = v3 at *
  refine (rCNum_ex v3 (w.heap.size + 1 + 1) g 3 61 (cap - 3) 1 1099511627776 (.inr rfl) (by decide) P3.out.2.1 (by decide) (by omega) (by omega) (by omega) (P3.out.1.cell (by simp) HQ.out.2.2.2)).mono ?_
  rintro e w4 ⟨rfl, hb, hx⟩
  have hH := hx.obj P3.out.2.2.2.2 (by simp; omega)
  have cH : w4.cell? ⟨w1.heap.size, 3, none⟩ = some (.int .i64 0) := by rw [cell_of_block hH]; rfl
  have fH : w4.frozen? ⟨w1.heap.size, 3, none⟩ = false := free_of_block hH
  have hP : Ex [] w (w4.setCell ⟨w1.heap.size, 3, none⟩ (.int .i64 1)) ∧ (w4.setCell ⟨w1.heap.size, 3, none⟩ (.int .i64 1)).heap[w.heap.size + 1 + 1]? = some (.cells #[.slice (some ⟨g, 4, none⟩) 60 (cap - 4), .int .i64 0] 231 (0, 0)) ∧ (w4.setCell ⟨w1.heap.size, 3, none⟩ (.int .i64 1)).heap[w.heap.size + 1]? = some (.cells #[.int .i64 0, .int .i64 0, .int .i64 0, .int .i64 0] 184 (0, 0)) ∧ (w4.setCell ⟨w1.heap.size, 3, none⟩ (.int .i64 1)).heap[w.heap.size]? = some (.cells #[.int .i64 2, .int .i64 1, .int .i64 1] 23 (0, 0)) ∧ (w4.setCell ⟨w1.heap.size, 3, none⟩ (.int .i64 1)).heap[w1.heap.size]? = some (.cells #[.int .i64 0, .int .i64 0, .int .i64 0, .int .i64 1] 184 (0, 0)) := by
    refine ⟨(P3.out.1.off hx (by simp; omega)).setCell (.inr (by simp; omega)) _, (block_other hb (by simp; omega)).trans (by rw [Nat.sub_sub]), block_other (hx.obj P3.out.2.2.1 (by simp)) (by simp; omega), block_other (hx.obj P3.out.2.2.2.1 (by simp; omega)) (by simp; omega), block_setCell hH⟩
  have P4 := Lib.hid hP
  have HC4 := Lib.hid (fun (k : Nat) (hk : k < 60) => ((P3.out.1.off hx (by simp; omega)).setCell (p := ⟨w1.heap.size, 3, none⟩) (.inr (by simp; omega)) (.int .i64 1)).cell (p := ⟨g, 4 + k, none⟩) (by simp) (HR.out k hk))
  clear hb hx hP hH
  go_upto_region 6 with (fail)
  clear cH fH
  generalize w4.setCell ⟨w1.heap.size, 3, none⟩ (.int .i64 1) = v4 at *
  have cc0 : v4.cell? ⟨w.heap.size + 1 + 1, 0, none⟩ = some (.slice (some ⟨g, 4, none⟩) 60 (cap - 4)) := by rw [cell_of_block P4.out.2.1]; rfl
  have cc1 : v4.cell? ⟨w.heap.size + 1 + 1, 1, none⟩ = some (.int .i64 0) := by rw [cell_of_block P4.out.2.1]; rfl
  have cs0 : v4.cell? ⟨w.heap.size, 0, none⟩ = some (.int .i64 2) := by rw [cell_of_block P4.out.2.2.2.1]; rfl
  have cs1 : v4.cell? ⟨w.heap.size, 1, none⟩ = some (.int .i64 1) := by rw [cell_of_block P4.out.2.2.2.1]; rfl
  have ch0 : v4.cell? ⟨w1.heap.size, 0, none⟩ = some (.int .i64 0) := by rw [cell_of_block P4.out.2.2.2.2]; rfl
  have ch1 : v4.cell? ⟨w1.heap.size, 1, none⟩ = some (.int .i64 0) := by rw [cell_of_block P4.out.2.2.2.2]; rfl
  have ch2 : v4.cell? ⟨w1.heap.size, 2, none⟩ = some (.int .i64 0) := by rw [cell_of_block P4.out.2.2.2.2]; rfl
  have ch3 : v4.cell? ⟨w1.heap.size, 3, none⟩ = some (.int .i64 1) := by rw [cell_of_block P4.out.2.2.2.2]; rfl
  have cr0 : v4.cell? ⟨w.heap.size + 1, 0, none⟩ = some (.int .i64 0) := by rw [cell_of_block P4.out.2.2.1]; rfl
  have cr1 : v4.cell? ⟨w.heap.size + 1, 1, none⟩ = some (.int .i64 0) := by rw [cell_of_block P4.out.2.2.1]; rfl
  have cr2 : v4.cell? ⟨w.heap.size + 1, 2, none⟩ = some (.int .i64 0) := by rw [cell_of_block P4.out.2.2.1]; rfl
  have cr3 : v4.cell? ⟨w.heap.size + 1, 3, none⟩ = some (.int .i64 0) := by rw [cell_of_block P4.out.2.2.1]; rfl
  have fr0 : v4.frozen? ⟨w.heap.size + 1, 0, none⟩ = false := free_of_block P4.out.2.2.1
  have fr1 : v4.frozen? ⟨w.heap.size + 1, 1, none⟩ = false := free_of_block P4.out.2.2.1
  have fr2 : v4.frozen? ⟨w.heap.size + 1, 2, none⟩ = false := free_of_block P4.out.2.2.1
  have fr3 : v4.frozen? ⟨w.heap.size + 1, 3, none⟩ = false := free_of_block P4.out.2.2.1
  go_wp2_with fail
  go_loop [8] (fun i => ∃ k : Nat, k ≤ 60 ∧ i = .int .i64 k) (fun i => 60 - (intOf i).toNat)
  case atStart => exact ⟨0, by decide, rfl⟩
  case round =>
    obtain ⟨k, hk, rfl⟩ := hrel
    by_cases hlt : k < 60
    · have ck : v4.cell? ⟨g, 4 + k, none⟩ = some (.int .u8 0) := HC4.out k hlt
      go_wp2_with fail
      go_round
      case rel => exact ⟨k + 1, by omega, by go_num⟩
      case measure => simp [intOf]; omega
    · go_wp2_with fail
      have e0 := set4g (W := v4) cr0 cr1 cr2 cr3 (a' := .int .i64 0) (b' := .int .i64 0) (c' := .int .i64 0) (d' := .int .i64 1)
      refine bodyPost_ret (v := .tuple #[.agg #[.int .i64 0, .int .i64 0, .int .i64 0, .int .i64 1], .bool true]) (by simp [results, Tryz.results125, go_sem, e0]) rfl ⟨rfl, ?_⟩
      exact (((P4.out.1.setCell (p := ⟨w.heap.size + 1, 0, none⟩) (.inr (by simp)) _).setCell (p := ⟨w.heap.size + 1, 1, none⟩) (.inr (by simp)) _).setCell (p := ⟨w.heap.size + 1, 2, none⟩) (.inr (by simp)) _).setCell (p := ⟨w.heap.size + 1, 3, none⟩) (.inr (by simp)) _
end Go.Proofs.YtckmpdplmpgniaaGreat
/- Contracts of the document's answer of layer 5 at the chapter's example: Open. No condition but ranges. -/
namespace Go.Proofs.YtckmpdplmpgniaaGreat
open Go Go.RowKit

set_option maxHeartbeats 1000000 in
theorem rBytes_ex (w : World) (E : Value) :
    Calls Tryz.prog 126 #[E, .int .i64 1, .int .i64 0] w fun x w' => x = .returned (.tuple #[.slice none 0 0, .int .i64 0]) ∧ w = w' := by
  go_enter Tryz.func126, Tryz.ntmps126
  go_wp2_with fail
  refine wp_loop_rounds 1 ?_
  rw [rounds_succ]
  go_wp2_with fail
  go_ret2
  exact ⟨rfl, rfl⟩

set_option maxHeartbeats 1000000 in
theorem rParted_ex (w : World) :
    Calls Tryz.prog 127 #[.slice none 0 0] w fun x w' => x = .returned (.tuple #[.slice none 0 0, .bool true]) ∧ Ex [] w w' := by
  go_enter Tryz.func127, Tryz.ntmps127
  go_wp2_with fail
  refine wp_loop_rounds 1 ?_
  rw [rounds_succ]
  go_wp2_with fail
  go_quiet (fail)
  go_wp2_with fail
  go_ret2
  exact ⟨rfl, ((Ex.refl [] w).alloc _).drewN _⟩

theorem exAll_take : exAll.take 64 = pad64 [0, 0, 0, 1] := by kernel_rfl
theorem exAll_length : exAll.length = 384 := by kernel_rfl

set_option maxRecDepth 100000 in
set_option maxHeartbeats 4000000 in
theorem rOpen_ex (w : World) (E dd : Nat) (F : List Nat) (h : RD0 w E F exAll dd) :
    Calls Tryz.prog 101 #[.pointer (some ⟨E, 0, none⟩), .agg exShape] w fun x w' => ∃ R, x = .returned (.tuple #[.pointer (some ⟨R, 0, none⟩), .int .i64 0]) ∧ Ex [] w w' := by
  have HD := Lib.hid h
  have hR := rRight_any
  have hS := rSectors_any
  unfold exShape at hR hS ⊢
  have HR := Lib.hid hR
  have HS := Lib.hid hS
  obtain ⟨av, _, hb, ho⟩ := h
  obtain ⟨_, a, ac, rfl, _⟩ := rd_of_owns ho
  have c0 : w.cell? ⟨E, 0, none⟩ = some (.slice a 384 ac) := by rw [cell_of_block hb, exAll_length]; rfl
  have hE := lt_of_block hb
  clear hR hS hb ho
  go_enter Tryz.func101, Tryz.ntmps101
  go_wp2_with fail
  have hb0 := heap_alloc_new w (.cells #[.int .i64 2, .int .i64 1, .int .i64 1] 23)
  have q0 : (w.alloc (.cells #[.int .i64 2, .int .i64 1, .int .i64 1] 23)).cell? ⟨w.heap.size, 0, none⟩ = some (.int .i64 2) := (cell_of_block hb0).trans rfl
  have q1 : (w.alloc (.cells #[.int .i64 2, .int .i64 1, .int .i64 1] 23)).cell? ⟨w.heap.size, 1, none⟩ = some (.int .i64 1) := (cell_of_block hb0).trans rfl
  have q2 : (w.alloc (.cells #[.int .i64 2, .int .i64 1, .int .i64 1] 23)).cell? ⟨w.heap.size, 2, none⟩ = some (.int .i64 1) := (cell_of_block hb0).trans rfl
  have qE : (w.alloc (.cells #[.int .i64 2, .int .i64 1, .int .i64 1] 23)).cell? ⟨E, 0, none⟩ = some (.slice a 384 ac) := ((Ex.refl [] w).alloc _).cell (by simp) c0
  have hx1 : Ex [] w (w.alloc (.cells #[.int .i64 2, .int .i64 1, .int .i64 1] 23)) := (Ex.refl [] w).alloc _
  have HX1 := Lib.hid hx1
  clear hb0 c0 hx1
  generalize w.alloc (.cells #[.int .i64 2, .int .i64 1, .int .i64 1] 23) = w1 at *
  go_region_held3 (fun w' => w'.cell? ⟨w.heap.size, 0, none⟩ = some (.int .i64 2) ∧ w'.cell? ⟨w.heap.size, 1, none⟩ = some (.int .i64 1) ∧ w'.cell? ⟨w.heap.size, 2, none⟩ = some (.int .i64 1) ∧ w'.cell? ⟨E, 0, none⟩ = some (.slice a 384 ac)) (first | (go_keep; done) | (refine ⟨?_, ?_, ?_, ?_⟩ <;> exact ((((Ex.refl [] w1).alloc _).alloc _).alloc _).drew.cell (by simp) (by assumption)))
    (first | (go_at_call 70; with_reducible refine (HR.out _).mono ?_; rintro x w' ⟨rfl, rfl⟩) | (go_at_call 99; with_reducible refine (rSects_cell _ E a ac (by go_split_ands; assumption)).mono ?_; rintro x w' ⟨rfl, rfl⟩) | (go_at_call 34; with_reducible refine (HS.out _).mono ?_; rintro x w' ⟨rfl, rfl⟩))
  have HX2 := Lib.hid (HX1.out.pure ((((Ex.refl [] w1).alloc (.cells #[.int .i64 2, .int .i64 1, .int .i64 1] 23)).alloc (.cells #[.int .i64 2, .int .i64 1, .int .i64 1] 23)).alloc (.cells #[.int .i64 2, .int .i64 1, .int .i64 1] 23)).drew)
  have k0 := ((((Ex.refl [] w1).alloc (.cells #[.int .i64 2, .int .i64 1, .int .i64 1] 23)).alloc (.cells #[.int .i64 2, .int .i64 1, .int .i64 1] 23)).alloc (.cells #[.int .i64 2, .int .i64 1, .int .i64 1] 23)).drew.cell (by simp) q0
  have k1 := ((((Ex.refl [] w1).alloc (.cells #[.int .i64 2, .int .i64 1, .int .i64 1] 23)).alloc (.cells #[.int .i64 2, .int .i64 1, .int .i64 1] 23)).alloc (.cells #[.int .i64 2, .int .i64 1, .int .i64 1] 23)).drew.cell (by simp) q1
  have k2 := ((((Ex.refl [] w1).alloc (.cells #[.int .i64 2, .int .i64 1, .int .i64 1] 23)).alloc (.cells #[.int .i64 2, .int .i64 1, .int .i64 1] 23)).alloc (.cells #[.int .i64 2, .int .i64 1, .int .i64 1] 23)).drew.cell (by simp) q2
  clear q0 q1 q2 qE
  generalize (((w1.alloc (.cells #[.int .i64 2, .int .i64 1, .int .i64 1] 23)).alloc (.cells #[.int .i64 2, .int .i64 1, .int .i64 1] 23)).alloc (.cells #[.int .i64 2, .int .i64 1, .int .i64 1] 23)).drew = w2 at *
  go_wp2_with fail
  refine (rRead_ex w2 E dd F exAll exAll_length (HD.out.pure HX2.out)).mono ?_
  rintro x w3 ⟨a3, cap3, rfl, ho3, hx3, _⟩
  rw [exAll_take] at ho3
  have m0 := hx3.cell (by simp) k0
  have m1 := hx3.cell (by simp) k1
  have m2 := hx3.cell (by simp) k2
  have H3 := Lib.hid (And.intro ho3 (HX2.out.pure hx3))
  clear ho3 hx3 k0 k1 k2
  go_wp2_with fail
  have hh := headOf_ex w3 a3 cap3 H3.out.1
  unfold exShape at hh
  refine hh.mono ?_
  clear hh
  rintro x w4 ⟨rfl, hx4⟩
  have n0 := hx4.cell (by simp) m0
  have n1 := hx4.cell (by simp) m1
  have n2 := hx4.cell (by simp) m2
  have H4 := Lib.hid (H3.out.2.pure hx4)
  clear hx4 m0 m1 m2
  go_wp2_with fail
  have hx5 : Ex [] w4 (w4.alloc (.cells #[.int .i64 0, .int .i64 0, .int .i64 0, .int .i64 1] 184)) := (Ex.refl [] w4).alloc _
  have hb5 := heap_alloc_new w4 (.cells #[.int .i64 0, .int .i64 0, .int .i64 0, .int .i64 1] 184)
  have p0 := hx5.cell (by simp) n0
  have p1 := hx5.cell (by simp) n1
  have p2 := hx5.cell (by simp) n2
  have r0 : (w4.alloc (.cells #[.int .i64 0, .int .i64 0, .int .i64 0, .int .i64 1] 184)).cell? ⟨w4.heap.size, 0, none⟩ = some (.int .i64 0) := (cell_of_block hb5).trans rfl
  have r1 : (w4.alloc (.cells #[.int .i64 0, .int .i64 0, .int .i64 0, .int .i64 1] 184)).cell? ⟨w4.heap.size, 1, none⟩ = some (.int .i64 0) := (cell_of_block hb5).trans rfl
  have r2 : (w4.alloc (.cells #[.int .i64 0, .int .i64 0, .int .i64 0, .int .i64 1] 184)).cell? ⟨w4.heap.size, 2, none⟩ = some (.int .i64 0) := (cell_of_block hb5).trans rfl
  have r3 : (w4.alloc (.cells #[.int .i64 0, .int .i64 0, .int .i64 0, .int .i64 1] 184)).cell? ⟨w4.heap.size, 3, none⟩ = some (.int .i64 1) := (cell_of_block hb5).trans rfl
  refine (rBytes_ex _ _).mono ?_
  rintro x w5 ⟨rfl, rfl⟩
  have H5 := Lib.hid (H4.out.pure hx5)
  clear n0 n1 n2 hx5 hb5
  generalize w4.alloc (.cells #[.int .i64 0, .int .i64 0, .int .i64 0, .int .i64 1] 184) = w5 at *
  go_wp2_with fail
  refine (rParted_ex w5).mono ?_
  rintro x w6 ⟨rfl, hx6⟩
  have s0 := hx6.cell (by simp) p0
  have s1 := hx6.cell (by simp) p1
  have s2 := hx6.cell (by simp) p2
  have t0 := hx6.cell (by simp) r0
  have t1 := hx6.cell (by simp) r1
  have t2 := hx6.cell (by simp) r2
  have t3 := hx6.cell (by simp) r3
  have H6 := Lib.hid (H5.out.pure hx6)
  clear hx6 p0 p1 p2 r0 r1 r2 r3
  go_wp2_with fail
  go_ret2
  exact ⟨_, rfl, H6.out.alloc _⟩
end Go.Proofs.YtckmpdplmpgniaaGreat
