/- Contracts of package log: a head, read out of its sector. No condition but ranges. -/
import Derived.Test.YtckmpdplmpgniaaGreatLogD
import Derived.Laws.IdiomStrings
namespace Go.Proofs.YtckmpdplmpgniaaGreat
open Go Go.RowKit

set_option maxHeartbeats 400000 in
theorem Equal_same (w : World) (l : List UInt8) (u v : Value) (hu : RdB w u l) (hv : RdB w v l) (hl : 0 < l.length) :
    Calls Tryz.prog 80 #[u, v] w fun x w' => x = .returned (.bool true) ∧ w' = w := by
  obtain ⟨h1, a, cap, rfl, _, _, _, h2⟩ := hu
  obtain ⟨g1, a', cap', rfl, _, _, _, g2⟩ := hv
  obtain ⟨b, o, rfl, hc⟩ := h2 hl
  obtain ⟨b', o', rfl, hc'⟩ := g2 hl
  have q1 := run_convert_bytes_back (P := Tryz.prog) w 37 9 5 ⟨b, o, none⟩ cap l Tryz.underlying37 Tryz.underlying5 Tryz.underlying9 (fun j hj => by rw [Addr.add_lit]; exact hc j _ (by rw [encB_get, List.getElem?_eq_getElem hj]; rfl))
  have q2 := run_convert_bytes_back (P := Tryz.prog) w 37 9 5 ⟨b', o', none⟩ cap' l Tryz.underlying37 Tryz.underlying5 Tryz.underlying9 (fun j hj => by rw [Addr.add_lit]; exact hc' j _ (by rw [encB_get, List.getElem?_eq_getElem hj]; rfl))
  clear h1 h2 g1 g2 hc hc'
  go_enter Tryz.func80, Tryz.ntmps80
  go_wp2
  go_ret
  exact ⟨by simp, rfl⟩

theorem over_pad (b : List UInt8) (hb : b.length ≤ 64) : over (encB (List.replicate 64 0)) 0 (encB b) = encB (pad64 b) := by
  apply List.ext_getElem?
  intro i
  rw [over_get _ _ _ (by simp [encB_length]; omega)]
  simp only [pad64, encB_append, encB_length, Nat.zero_add, Nat.sub_zero, Nat.zero_le, true_and]
  by_cases h : i < b.length
  · rw [if_pos h, List.getElem?_append_left (by rw [encB_length]; exact h)]
  · rw [if_neg h, List.getElem?_append_right (by rw [encB_length]; omega), encB_length, encB_get, encB_get, List.getElem?_replicate, List.getElem?_replicate]
    by_cases h2 : i < 64
    · rw [if_pos h2, if_pos (by omega)]
    · rw [if_neg h2, if_neg (by omega)]

theorem far_off {W : World} {g i j : Nat} {u v : Value} (h : W.cell? ⟨g, i, none⟩ = some u) (hne : j ≠ i) : (W.setCell ⟨g, j, none⟩ v).cell? ⟨g, i, none⟩ = some u := by
  rw [World.cell?_setCell_other]
  · exact h
  · simp [hne]

theorem set4 {W : World} {g : Nat} {a b c d : Value} (h0 : W.cell? ⟨g, 0, none⟩ = some a) (h1 : W.cell? ⟨g, 1, none⟩ = some b) (h2 : W.cell? ⟨g, 2, none⟩ = some c) (h3 : W.cell? ⟨g, 3, none⟩ = some d) :
    ((((W.setCell ⟨g, 0, none⟩ a).setCell ⟨g, 1, none⟩ b).setCell ⟨g, 2, none⟩ c).setCell ⟨g, 3, none⟩ d).cell? ⟨g, 0, none⟩ = some a ∧ ((((W.setCell ⟨g, 0, none⟩ a).setCell ⟨g, 1, none⟩ b).setCell ⟨g, 2, none⟩ c).setCell ⟨g, 3, none⟩ d).cell? ⟨g, 1, none⟩ = some b ∧
    ((((W.setCell ⟨g, 0, none⟩ a).setCell ⟨g, 1, none⟩ b).setCell ⟨g, 2, none⟩ c).setCell ⟨g, 3, none⟩ d).cell? ⟨g, 2, none⟩ = some c ∧ ((((W.setCell ⟨g, 0, none⟩ a).setCell ⟨g, 1, none⟩ b).setCell ⟨g, 2, none⟩ c).setCell ⟨g, 3, none⟩ d).cell? ⟨g, 3, none⟩ = some d :=
  ⟨far_off (far_off (far_off (cell_set_same h0) (by decide)) (by decide)) (by decide), far_off (far_off (cell_set_same (far_off h1 (by decide))) (by decide)) (by decide), far_off (cell_set_same (far_off (far_off h2 (by decide)) (by decide))) (by decide), cell_set_same (far_off (far_off (far_off h3 (by decide)) (by decide)) (by decide))⟩

theorem nums_cons (n : Nat) (l : List Nat) : nums (n :: l) = num n ++ nums l := rfl

theorem drop_num (n : Nat) (r : List UInt8) : (num n ++ r).drop (num n).length = r := by simp

set_option maxRecDepth 100000 in
set_option maxHeartbeats 4000000 in
theorem headed_good (w : World) (v : Value) (h : Hd) (hk : h.ok) (hr : 1 ≤ h.round) (hv : RdB w v (pad64 h.bytes)) :
    Calls Tryz.prog 40 #[v] w fun x w' => x = .returned (.tuple #[.agg h.cells, .bool true]) ∧ Ex [] w w' := by
  obtain ⟨iU, hiU, hzU, hz1U, hz2U⟩ := info_parts info_u8
  have HK := Lib.hid hk
  have HV := Lib.hid hv
  have hlb := h.bytes_length hk
  have HL := Lib.hid (pad64_length h.bytes (by omega))
  obtain ⟨ka, ks, ku, kr⟩ := hk
  clear hv
  have HX0 := Lib.hid ((Ex.refl [] w).alloc (.cells #[.int .i64 0, .int .i64 0, .int .i64 0, .int .i64 0] 90))
  have hrest : pad64 h.bytes = num h.area ++ (num h.size ++ (num h.used ++ (num h.round ++ List.replicate (64 - h.bytes.length) 0))) := by
    unfold pad64
    conv => lhs; lhs; unfold Hd.bytes Hd.list
    simp only [nums, List.append_nil, List.append_assoc]
  have HREST := Lib.hid hrest
  clear hrest
  generalize hz : List.replicate (64 - h.bytes.length) (0 : UInt8) = zs at *
  have n1 := cnum_num 1 h.area (num h.size ++ (num h.used ++ (num h.round ++ zs))) (by omega) (by omega)
  have n2 := cnum_num 1099511627776 h.size (num h.used ++ (num h.round ++ zs)) (by omega) (by omega)
  have n3 := cnum_num 1099511627776 h.used (num h.round ++ zs) (by omega) (by omega)
  have n4 := cnum_num 1099511627776 h.round zs (by omega) (by omega)
  have HN := Lib.hid (And.intro n1 (And.intro n2 (And.intro n3 n4)))
  clear n1 n2 n3 n4
  go_enter Tryz.func40, Tryz.ntmps40
  go_wp2_with fail
  refine (Over_any _ (pad64 h.bytes) v (HV.out.pure HX0.out) (by rw [HL.out]; decide)).mono ?_
  rintro x w1 ⟨B, F, rfl, hcu, hfr, hx1, hup⟩
  rw [HREST.out] at hcu
  have HC := Lib.hid (And.intro hcu (And.intro hfr (And.intro hx1 hup)))
  clear hcu hfr hx1 hup
  have hB0 := HC.out.2.1
  have hBm : B ∈ F := by
    obtain ⟨_, rfl, _⟩ := HC.out.1
    simp
  have hBne : w.heap.size ≠ B := by have := hB0 B hBm; simp at this; omega
  have hFne : ∀ k ∈ F, k ∉ [w.heap.size] := by
    intro k hk hm
    have := hB0 k hk
    simp at this hm
    omega
  have HF := Lib.hid hFne
  clear hB0 hFne
  have hb1 := HC.out.2.2.1.obj (heap_alloc_new w _) (by simp)
  have HB1 := Lib.hid hb1
  clear hb1
  go_wp2_with fail
  refine (cNum_any w1 B F _ 0 1 (by decide) (by decide) HC.out.1).mono ?_
  intro x w2 hc
  unfold CNum at hc
  rw [HN.out.1] at hc
  obtain ⟨rfl, F2, hcu2, hs2, hx2⟩ := hc
  rw [drop_num] at hcu2
  have hb2 := hx2.obj HB1.out (by simpa using hBne)
  have H2 := Lib.hid (And.intro hcu2 (And.intro hs2 (And.intro hx2 hb2)))
  have ac0 : w2.cell? ⟨w.heap.size, 0, none⟩ = some (.int .i64 0) := by rw [cell_of_block hb2]; rfl
  have af0 : w2.frozen? ⟨w.heap.size, 0, none⟩ = false := free_of_block hb2
  have ac1 : w2.cell? ⟨w.heap.size, 1, none⟩ = some (.int .i64 0) := by rw [cell_of_block hb2]; rfl
  have af1 : w2.frozen? ⟨w.heap.size, 1, none⟩ = false := free_of_block hb2
  have ac2 : w2.cell? ⟨w.heap.size, 2, none⟩ = some (.int .i64 0) := by rw [cell_of_block hb2]; rfl
  have af2 : w2.frozen? ⟨w.heap.size, 2, none⟩ = false := free_of_block hb2
  have ac3 : w2.cell? ⟨w.heap.size, 3, none⟩ = some (.int .i64 0) := by rw [cell_of_block hb2]; rfl
  have af3 : w2.frozen? ⟨w.heap.size, 3, none⟩ = false := free_of_block hb2
  clear hcu2 hs2 hx2 hb2
  go_wp2_with fail
  clear ac0 af0 ac1 af1 ac2 af2 ac3 af3
  have hy2 : Ex [w.heap.size] w2 ((((w2.setCell ⟨w.heap.size, 0, none⟩ (.int .i64 h.area)).setCell ⟨w.heap.size, 1, none⟩ (.int .i64 0)).setCell ⟨w.heap.size, 2, none⟩ (.int .i64 0)).setCell ⟨w.heap.size, 3, none⟩ (.int .i64 0)) := ((((Ex.refl [w.heap.size] w2).setCell (.inl (by simp)) _).setCell (.inl (by simp)) _).setCell (.inl (by simp)) _).setCell (.inl (by simp)) _
  have hb3 := block_setCell (j := 3) (u := .int .i64 0) (block_setCell (j := 2) (u := .int .i64 0) (block_setCell (j := 1) (u := .int .i64 0) (block_setCell (j := 0) (u := .int .i64 h.area) H2.out.2.2.2)))
  have HY2 := Lib.hid (And.intro hy2 hb3)
  clear hy2 hb3
  have hcuW := H2.out.1.ex HY2.out.1 (fun k hk => HF.out k (H2.out.2.1 k hk))
  have hbW := HY2.out.2
  have hxW : Ex [] w w2 := ((HX0.out.pure HC.out.2.2.1).off H2.out.2.2.1 (fun k hk => by simp at hk; subst hk; have := HC.out.2.1 _ hBm; simp at this; omega))
  have hxW2 := hxW.off HY2.out.1 (fun k hk => by simp at hk; subst hk; exact Nat.le_refl _)
  have hF2 := H2.out.2.1
  have hbW' : ((((w2.setCell ⟨w.heap.size, 0, none⟩ (.int .i64 h.area)).setCell ⟨w.heap.size, 1, none⟩ (.int .i64 0)).setCell ⟨w.heap.size, 2, none⟩ (.int .i64 0)).setCell ⟨w.heap.size, 3, none⟩ (.int .i64 0)).heap[w.heap.size]? = some (.cells #[.int .i64 h.area, .int .i64 0, .int .i64 0, .int .i64 0] 90 (0, 0)) := hbW
  clear hxW hbW HY2 H2 HB1 HX0
  generalize ((((w2.setCell ⟨w.heap.size, 0, none⟩ (.int .i64 h.area)).setCell ⟨w.heap.size, 1, none⟩ (.int .i64 0)).setCell ⟨w.heap.size, 2, none⟩ (.int .i64 0)).setCell ⟨w.heap.size, 3, none⟩ (.int .i64 0)) = W2 at *
  refine (cNum_any W2 B F2 _ 0 1099511627776 (by decide) (by decide) hcuW).mono ?_
  intro x w3 hc
  unfold CNum at hc
  rw [HN.out.2.1] at hc
  obtain ⟨rfl, F3, hcu3, hs3, hx3⟩ := hc
  rw [drop_num] at hcu3
  have hxw3 : Ex [] w w3 := hxW2.off hx3 (fun k hk => by simp at hk; subst hk; have := HC.out.2.1 _ hBm; simp at this; omega)
  have hb3 : w3.heap[w.heap.size]? = _ := hx3.obj hbW' (by simpa using hBne)
  go_wp2_with fail
  refine (cNum_any w3 B F3 _ 0 1099511627776 (by decide) (by decide) hcu3).mono ?_
  intro x w4 hc
  unfold CNum at hc
  rw [HN.out.2.2.1] at hc
  obtain ⟨rfl, F4, hcu4, hs4, hx4⟩ := hc
  rw [drop_num] at hcu4
  have hxw4 : Ex [] w w4 := hxw3.off hx4 (fun k hk => by simp at hk; subst hk; have := HC.out.2.1 _ hBm; simp at this; omega)
  have hb4 : w4.heap[w.heap.size]? = _ := hx4.obj hb3 (by simpa using hBne)
  go_wp2_with fail
  refine (cNum_any w4 B F4 _ 0 1099511627776 (by decide) (by decide) hcu4).mono ?_
  intro x w5 hc
  unfold CNum at hc
  rw [HN.out.2.2.2] at hc
  obtain ⟨rfl, F5, hcu5, hs5, hx5⟩ := hc
  rw [drop_num] at hcu5
  have hxw5 : Ex [] w w5 := hxw4.off hx5 (fun k hk => by simp at hk; subst hk; have := HC.out.2.1 _ hBm; simp at this; omega)
  have hb5 : w5.heap[w.heap.size]? = _ := hx5.obj hb4 (by simpa using hBne)
  have ac0 : w5.cell? ⟨w.heap.size, 0, none⟩ = some (.int .i64 h.area) := by rw [cell_of_block hb5]; rfl
  have af0 : w5.frozen? ⟨w.heap.size, 0, none⟩ = false := free_of_block hb5
  have ac1 : w5.cell? ⟨w.heap.size, 1, none⟩ = some (.int .i64 0) := by rw [cell_of_block hb5]; rfl
  have af1 : w5.frozen? ⟨w.heap.size, 1, none⟩ = false := free_of_block hb5
  have ac2 : w5.cell? ⟨w.heap.size, 2, none⟩ = some (.int .i64 0) := by rw [cell_of_block hb5]; rfl
  have af2 : w5.frozen? ⟨w.heap.size, 2, none⟩ = false := free_of_block hb5
  have ac3 : w5.cell? ⟨w.heap.size, 3, none⟩ = some (.int .i64 0) := by rw [cell_of_block hb5]; rfl
  have af3 : w5.frozen? ⟨w.heap.size, 3, none⟩ = false := free_of_block hb5
  have HS5 := Lib.hid (And.intro hxw5 hb5)
  clear hcu3 hcu4 hcu5 hs3 hs4 hs5 hx3 hx4 hx5 hxw3 hxw4 hxw5 hb3 hb4 hb5 hbW' hcuW hxW2 hF2
  have hb5a : (((w5.setCell ⟨w.heap.size, 1, none⟩ (.int .i64 h.size)).setCell ⟨w.heap.size, 2, none⟩ (.int .i64 h.used)).setCell ⟨w.heap.size, 3, none⟩ (.int .i64 h.round)).heap[w.heap.size]? = some (.cells #[.int .i64 h.area, .int .i64 h.size, .int .i64 h.used, .int .i64 h.round] 90 (0, 0)) := block_setCell (j := 3) (block_setCell (j := 2) (block_setCell (j := 1) HS5.out.2))
  have hx5a : Ex [] w (((w5.setCell ⟨w.heap.size, 1, none⟩ (.int .i64 h.size)).setCell ⟨w.heap.size, 2, none⟩ (.int .i64 h.used)).setCell ⟨w.heap.size, 3, none⟩ (.int .i64 h.round)) := ((HS5.out.1.setCell (.inr (Nat.le_refl _)) _).setCell (.inr (Nat.le_refl _)) _).setCell (.inr (Nat.le_refl _)) _
  have H5A := Lib.hid (And.intro hb5a hx5a)
  clear hb5a hx5a
  go_wp2_with (at_make; go_loud (refine wpList_make_full _ rfl _ _ 37 rfl 0 5 iU _ 1 Tryz.underlying37 hiU hzU hz1U _ _ _ _ 64 rfl rfl rfl rfl (by rw [hz2U]; decide) (by decide) (Nat.zero_le _) ?_; intro w6 hown6 hgrow6; have hb6 := block_grown H5A.out.1 hgrow6 (by simp); have bc0 : w6.cell? ⟨w.heap.size, 0, none⟩ = some (.int .i64 h.area) := (by rw [cell_of_block hb6]; rfl); have bf0 : w6.frozen? ⟨w.heap.size, 0, none⟩ = false := free_of_block hb6; have bc1 : w6.cell? ⟨w.heap.size, 1, none⟩ = some (.int .i64 h.size) := (by rw [cell_of_block hb6]; rfl); have bf1 : w6.frozen? ⟨w.heap.size, 1, none⟩ = false := free_of_block hb6; have bc2 : w6.cell? ⟨w.heap.size, 2, none⟩ = some (.int .i64 h.used) := (by rw [cell_of_block hb6]; rfl); have bf2 : w6.frozen? ⟨w.heap.size, 2, none⟩ = false := free_of_block hb6; have bc3 : w6.cell? ⟨w.heap.size, 3, none⟩ = some (.int .i64 h.round) := (by rw [cell_of_block hb6]; rfl); have bf3 : w6.frozen? ⟨w.heap.size, 3, none⟩ = false := free_of_block hb6))
  have hx6 := H5A.out.2.grown hgrow6 (by simp)
  have hz0 := hx6.size
  refine (bytes_any w6 h HK.out).mono ?_
  rintro x w7 ⟨a7, cap7, rfl, ho7, hx7, hf7⟩
  have hb7 := hx7.obj hb6 (by simp)
  have hown7 := own_pure hown6 hx7
  have hcopy := run_copy_any (P := Tryz.prog) w7 37 37 3 5 w5.heap.size 0 64 64 Tryz.underlying37 info_u8' (rd_of_owns ho7) (encB_oneCell _) (by omega) (own_there (by simpa using hown7) 0 _ (by omega))
  obtain ⟨s8, hx8⟩ := own_setCells (encB h.bytes) 0 (by simpa using hown7)
  have hl0 : (madeCells (Value.int .u8 0).cells (64 * 1)).toList = encB (List.replicate 64 0) := by kernel_rfl
  have hov : over (encB (List.replicate 64 0)) 0 (encB h.bytes) = encB (pad64 h.bytes) := over_pad h.bytes (by omega)
  rw [hl0, hov] at s8
  have hpb := HL.out
  have hrd8 : RdB (w7.setCells w5.heap.size 0 (encB h.bytes)) (.slice (some ⟨w5.heap.size, 0, none⟩) 64 64) (pad64 h.bytes) := by
    have := rd_of_owns s8
    unfold RdB
    rw [hpb]
    exact this
  have hxx : Ex [] w w5 := HS5.out.1
  have hx8' : Ex [] w (w7.setCells w5.heap.size 0 (encB h.bytes)) := (hx6.pure hx7).off hx8 (fun k hk => by simp at hk; subst hk; exact hxx.size)
  have hne5 : w.heap.size ≠ w5.heap.size := by
    have := lt_of_block HS5.out.2
    omega
  have hb8 := hx8.obj hb7 (by simpa using hne5)
  have H8 := Lib.hid (And.intro hrd8 (And.intro hx8' hb8))
  have hcp := hcopy
  have cc0 : w7.cell? ⟨w.heap.size, 0, none⟩ = some (.int .i64 h.area) := by rw [cell_of_block hb7]; rfl
  have cf0 : w7.frozen? ⟨w.heap.size, 0, none⟩ = false := free_of_block hb7
  have cc1 : w7.cell? ⟨w.heap.size, 1, none⟩ = some (.int .i64 h.size) := by rw [cell_of_block hb7]; rfl
  have cf1 : w7.frozen? ⟨w.heap.size, 1, none⟩ = false := free_of_block hb7
  have cc2 : w7.cell? ⟨w.heap.size, 2, none⟩ = some (.int .i64 h.used) := by rw [cell_of_block hb7]; rfl
  have cf2 : w7.frozen? ⟨w.heap.size, 2, none⟩ = false := free_of_block hb7
  have cc3 : w7.cell? ⟨w.heap.size, 3, none⟩ = some (.int .i64 h.round) := by rw [cell_of_block hb7]; rfl
  have cf3 : w7.frozen? ⟨w.heap.size, 3, none⟩ = false := free_of_block hb7
  clear hown6 hgrow6 hx6 hz0 ho7 hx7 hf7 hb7 hown7 hcopy s8 hx8 hl0 hov hrd8 hx8' hb8 hb6 hpb hxx bc0 bf0 bc1 bf1 bc2 bf2 bc3 bf3 ac0 af0 ac1 af1 ac2 af2 ac3 af3
  have h8c := H8.out.2.2
  generalize hW8 : w7.setCells w5.heap.size 0 (encB h.bytes) = w8 at *
  have dc0 : w8.cell? ⟨w.heap.size, 0, none⟩ = some (.int .i64 h.area) := by rw [cell_of_block h8c]; rfl
  have df0 : w8.frozen? ⟨w.heap.size, 0, none⟩ = false := free_of_block h8c
  have dc1 : w8.cell? ⟨w.heap.size, 1, none⟩ = some (.int .i64 h.size) := by rw [cell_of_block h8c]; rfl
  have df1 : w8.frozen? ⟨w.heap.size, 1, none⟩ = false := free_of_block h8c
  have dc2 : w8.cell? ⟨w.heap.size, 2, none⟩ = some (.int .i64 h.used) := by rw [cell_of_block h8c]; rfl
  have df2 : w8.frozen? ⟨w.heap.size, 2, none⟩ = false := free_of_block h8c
  have dc3 : w8.cell? ⟨w.heap.size, 3, none⟩ = some (.int .i64 h.round) := by rw [cell_of_block h8c]; rfl
  have df3 : w8.frozen? ⟨w.heap.size, 3, none⟩ = false := free_of_block h8c
  have hr0 : (decide ((0 : Int) < (h.round : Int))) = true := by simp; omega
  have hr1 : 0 < h.round := by omega
  have hr2 : (0 : Int) < (h.round : Int) := by omega
  clear h8c
  go_wp2_with fail
  go_region_held3 (fun w' => w'.cell? ⟨w.heap.size, 0, none⟩ = some (.int .i64 h.area) ∧ w'.cell? ⟨w.heap.size, 1, none⟩ = some (.int .i64 h.size) ∧ w'.cell? ⟨w.heap.size, 2, none⟩ = some (.int .i64 h.used) ∧ w'.cell? ⟨w.heap.size, 3, none⟩ = some (.int .i64 h.round)) (first | (simp [*]; done) | (go_split_ands; exact set4 (by assumption) (by assumption) (by assumption) (by assumption)))
    (first | (go_at_call 80; refine (Equal_same w8.drew (pad64 h.bytes) _ _ (H8.out.1.pure ((Ex.refl [] w8).drew)) (HV.out.pure (H8.out.2.1.drew)) (by rw [HL.out]; decide)).mono ?_; rintro e w' ⟨rfl, rfl⟩))
  have hend : Ex [] w w8.drew := H8.out.2.1.drew
  have e0 := set4 (W := w8) dc0 dc1 dc2 dc3
  go_wp2_with fail
  refine bodyPost_ret (v := .tuple #[.agg h.cells, .bool true]) (by simp [results, Tryz.results40, go_sem, Hd.cells, e0]) rfl ⟨rfl, ?_⟩
  exact (((H8.out.2.1.drew.setCell (p := ⟨w.heap.size, 0, none⟩) (.inr (Nat.le_refl _)) _).setCell (p := ⟨w.heap.size, 1, none⟩) (.inr (Nat.le_refl _)) _).setCell (p := ⟨w.heap.size, 2, none⟩) (.inr (Nat.le_refl _)) _).setCell (p := ⟨w.heap.size, 3, none⟩) (.inr (Nat.le_refl _)) _
end Go.Proofs.YtckmpdplmpgniaaGreat
