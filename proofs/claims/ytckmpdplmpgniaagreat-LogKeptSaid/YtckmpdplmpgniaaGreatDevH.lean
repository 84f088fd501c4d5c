/- Contracts of package dev: Read. No condition but sizes. -/
import Derived.Test.YtckmpdplmpgniaaGreatDevG
import Derived.Sort.QuietIn
namespace Go.Proofs.YtckmpdplmpgniaaGreat
open Go Go.RowKit Go.Shelf

theorem cell_of_box_l {W : World} {B : Nat} {v : Value} {t : TypeId} (h : W.heap[B]? = some (.cells #[v] t (0, 0))) : W.cell? ⟨B, 0, none⟩ = some v ∧ W.frozen? ⟨B, 0, none⟩ = false := by
  constructor <;> simp [World.cell?, World.frozen?, h]
theorem cell_new_l (W : World) (v : Value) (t : TypeId) : (W.alloc (.cells #[v] t)).cell? ⟨W.heap.size, 0, none⟩ = some v ∧ (W.alloc (.cells #[v] t)).frozen? ⟨W.heap.size, 0, none⟩ = false := cell_of_box_l (World.alloc_heap_new W _)
theorem cell_alloc_l {W : World} {a : Addr} {v : Value} (o : Obj) (h : W.cell? a = some v) : (W.alloc o).cell? a = some v := cell_kept h (World.grownBy_alloc W o none) (fun r e => by cases e)
theorem frozen_alloc_l {W : World} {a : Addr} {v : Value} (o : Obj) (h : W.cell? a = some v) (hf : W.frozen? a = false) : (W.alloc o).frozen? a = false := (frozen_kept h (World.grownBy_alloc W o none) (fun r e => by cases e)).trans hf

attribute [local go_sem] Oper.semAt_some

set_option maxHeartbeats 400000 in
theorem latest_any (w : World) (D : Nat) : Calls Tryz.prog 76 #[.pointer (some ⟨D, 0, none⟩)] w fun x w' => x = .returned (.func (.func 105) #[] #[.pointer (some ⟨w.heap.size, 0, none⟩)]) ∧ w' = w.alloc (.cells #[.pointer (some ⟨D, 0, none⟩)] 28) := by
  go_enter Tryz.func76, Tryz.ntmps76
  go_wp2
  go_ret
  exact ⟨rfl, rfl⟩

set_option maxHeartbeats 2000000 in
theorem Read_down (w : World) (D : Nat) (F : List Nat) (d : Dv) (at_ : Nat) (h : DevAt w D F d) (hd : d.down = true) :
    Calls Tryz.prog 39 #[.pointer (some ⟨D, 0, none⟩), .int .i64 at_] w fun x w' => x = .returned (.tuple #[.slice none 0 0, .int .i64 10]) ∧ Ex [] w w' := by
  have HD := Lib.hid h
  have HA : Hid (d.able = 10) := by show _ = _; unfold Dv.able; rw [hd]; rfl
  clear hd
  go_enter Tryz.func39, Tryz.ntmps39
  go_wp2_with fail
  refine (able_any _ D F d (HD.out.pure ((((Ex.refl [] w).alloc _).alloc _).alloc _))).mono ?_
  rintro x w' ⟨rfl, rfl⟩
  rw [HA.out]
  go_wp2_with fail
  exact bodyPost_ret (v := .tuple #[.slice none 0 0, .int .i64 10]) (by simp [results, Tryz.results39, go_sem]) rfl ⟨rfl, (((Ex.refl _ _).alloc _).alloc _).alloc _⟩

theorem frozen_below {B : Nat} {w w' : World} (h : Below B w w') (p : Addr) (hp : p.block < B) : w'.frozen? p = w.frozen? p := by
  simp only [World.frozen?, h.block _ hp]

theorem keepsOthers_ex {w w' : World} (h : Ex [] w w') : KeepsOthers w w' :=
  ⟨h.size, fun k _ hk _ => (h.block k (lt_of_block hk) (by simp)).trans hk⟩

theorem cell_set_same {W : World} {p : Addr} {v u : Value} (h : W.cell? p = some u) : (W.setCell p v).cell? p = some v := World.cell?_setCell_same' W p v (by rw [h]; rfl)

/-- What is seen: of the latest pending write of the place, or what is kept. -/
theorem seen_kept (d : Dv) (at_ : Nat) (hat : at_ < d.kept.length) (h : ∀ p ∈ d.pend, p.1 ≠ at_) : d.seen at_ = d.kept[at_] := by
  have : d.pend.reverse.find? (fun p => p.1 == at_) = none := by
    rw [List.find?_eq_none]
    intro p hp
    simpa using h p (List.mem_reverse.1 hp)
  simp [Dv.seen, this, List.getD, List.getElem?_eq_getElem hat]

theorem seen_pend (d : Dv) (at_ x : Nat) (hx : x < d.pend.length) (he : d.pend[x].1 = at_) (h : ∀ y, x < y → ∀ hy : y < d.pend.length, d.pend[y].1 ≠ at_) : d.seen at_ = d.pend[x].2 := by
  have : d.pend.reverse.find? (fun p => p.1 == at_) = some d.pend[x] := by
    have hs : d.pend.reverse = (d.pend.drop (x + 1)).reverse ++ d.pend[x] :: (d.pend.take x).reverse := by
      conv => lhs; rw [← List.take_append_drop x d.pend, List.reverse_append, List.drop_eq_getElem_cons hx, List.reverse_cons, List.append_assoc]
      rfl
    rw [hs, List.find?_append, List.find?_eq_none.2, List.find?_cons_of_pos]
    · rfl
    · simpa using he
    · intro p hp
      obtain ⟨i, hi, rfl⟩ := List.getElem_of_mem (List.mem_reverse.1 hp)
      rw [List.getElem_drop]
      simpa using h (x + 1 + i) (by omega) (by simp at hi; omega)
  simp [Dv.seen, this]

/-- A row lies as it lay behind a turn of a block that is no cells. -/
theorem own_turned {W W' : World} {row : Option Nat} {e : TypeId} {size n : Nat} {v : Value} {xs : List Value} (h : Own W e size v n xs) (hg : W.grownBy W' row) (hrow : ∀ r, row = some r → ∃ o : Obj, W.heap[r]? = some o ∧ o.isCells = false) : Own W' e size v n xs := by
  refine ⟨h.1, ?_⟩
  rcases h.2 with h2 | ⟨g, cap, cur, hv, hz, hh, r⟩
  · exact .inl h2
  · exact .inr ⟨g, cap, cur, hv, hz, (grownBy_keeps_cells hg hrow hh rfl).trans hh, r⟩

/-- Read's way out, behind the loop. -/
theorem read_out {w W : World} {d : Dv} {at_ Dd cap : Nat} {a : Option Addr} {l : List UInt8} {tmps : Array Value} (hD : w.heap.size ≤ Dd) (hl : l = d.seen at_) (hB : Below w.heap.size w W) (hK : W.heap[Dd]? = some (.deferred (some [])))
    (ho : Own W 5 1 (.slice a 64 cap) 64 (encB l)) (h1 : W.cell? ⟨w.heap.size + 1, 0, none⟩ = some (.slice a 64 cap)) (h2 : W.cell? ⟨w.heap.size + 1 + 1, 0, none⟩ = some (.int .i64 0)) (hf : ∀ k ∈ bk (.slice a 64 cap), w.heap.size ≤ k)
    (t4 : tmps[4]? = some (.pointer (some ⟨w.heap.size + 1, 0, none⟩)) := by rfl) (t5 : tmps[5]? = some (.pointer (some ⟨w.heap.size + 1 + 1, 0, none⟩)) := by rfl) :
    bodyPostM Fence.wide 5 Tryz.prog Tryz.f39 (fun x w' => ∃ a cap, x = .returned (.tuple #[.slice a 64 cap, .int .i64 0]) ∧ Own w' 5 1 (.slice a 64 cap) 64 (encB (d.seen at_)) ∧ Ex [] w w' ∧ (∀ k ∈ bk (.slice a 64 cap), w.heap.size ≤ k)) .ret { tmps, defers := [{ target := .collected Dd, args := #[] }] } W := by
  subst hl
  refine ⟨by simp, .inl ⟨_, _, rfl, run_takeDeferred hK, ?_⟩⟩
  have c1 := cell_kept h1 (grownBy_putObj' _ Dd (.deferred none)) (fun r e => by cases e; exact ⟨_, hK, rfl⟩)
  have c2 := cell_kept h2 (grownBy_putObj' _ Dd (.deferred none)) (fun r e => by cases e; exact ⟨_, hK, rfl⟩)
  have o1 := own_turned ho (grownBy_putObj' _ Dd (.deferred none)) (fun r e => by cases e; exact ⟨_, hK, rfl⟩)
  refine ⟨.tuple #[.slice a 64 cap, .int .i64 0], ?_, a, cap, rfl, o1, Ex.of_below (hB.trans (belowK_b (w := w) (Nat.le_refl _) W Dd _ _ hD hK rfl rfl)), hf⟩
  simp [results, Tryz.f39, go_sem, t4, t5, c1, c2]

set_option maxRecDepth 100000 in
set_option maxHeartbeats 4000000 in
theorem Read_up (w : World) (D : Nat) (F : List Nat) (d : Dv) (at_ : Nat) (hp : d.pend.length ≤ 1000000) (h : DevAt w D F d) (hd : d.down = false) (hat : at_ < d.kept.length) :
    Calls Tryz.prog 39 #[.pointer (some ⟨D, 0, none⟩), .int .i64 at_] w fun x w' => ∃ a cap, x = .returned (.tuple #[.slice a 64 cap, .int .i64 0]) ∧ Own w' 5 1 (.slice a 64 cap) 64 (encB (d.seen at_)) ∧ Ex [] w w' ∧ (∀ k ∈ bk (.slice a 64 cap), w.heap.size ≤ k) := by
  have HD := Lib.hid h
  have HA : Hid (d.able = 0 ∧ d.has at_ = true) := ⟨by unfold Dv.able; rw [hd]; rfl, by unfold Dv.has; simp; omega⟩
  have hk8 := h.1.2.1
  clear hd
  refine callsIn_wide.1 (callsIn_of_wp_marks (F := Fence.wide) (n := 5) Tryz.func39 rfl trivial ?_ rfl)
  refine wpIn_wide.2 ?_
  simp only [Tryz.ntmps39, List.size_toArray, List.length_cons, List.length_nil, Nat.reduceAdd, Nat.reduceSub, Array.replicate_succ, Array.replicate_zero, List.push_toArray, List.append_toArray, List.nil_append, List.cons_append]
  go_wp2_with fail
  refine (able_any _ D F d (HD.out.pure ((((Ex.refl [] w).alloc _).alloc _).alloc _))).mono ?_
  rintro x w' ⟨rfl, rfl⟩
  rw [HA.out.1]
  go_wp2_with fail
  refine (has_any _ D F d at_ (by omega) (by omega) (HD.out.pure ((((Ex.refl [] w).alloc _).alloc _).alloc _))).mono ?_
  rintro x w' ⟨rfl, rfl⟩
  rw [HA.out.2]
  go_wp2_with fail
  refine (latest_any _ D).mono ?_
  rintro x w' ⟨rfl, rfl⟩
  go_wp2_with fail
  have hx0 : Ex [] w ((((w.alloc (.cells #[.int .i64 at_] 3)).alloc (.cells #[.slice none 0 0] 37)).alloc (.cells #[.int .i64 0] 29)).alloc (.cells #[.pointer (some ⟨D, 0, none⟩)] 28)) := ((((Ex.refl [] w).alloc _).alloc _).alloc _).alloc _
  have a1 := cell_new_l w (.int .i64 at_) 3
  have a2 := cell_new_l (w.alloc (.cells #[.int .i64 at_] 3)) (.slice none 0 0) 37
  have a3 := cell_new_l ((w.alloc (.cells #[.int .i64 at_] 3)).alloc (.cells #[.slice none 0 0] 37)) (.int .i64 0) 29
  have a4 := cell_new_l (((w.alloc (.cells #[.int .i64 at_] 3)).alloc (.cells #[.slice none 0 0] 37)).alloc (.cells #[.int .i64 0] 29)) (.pointer (some ⟨D, 0, none⟩)) 28
  simp only [World.size_alloc] at a2 a3 a4
  have g1 := cell_alloc_l (.cells #[.pointer (some ⟨D, 0, none⟩)] 28) (cell_alloc_l (.cells #[.int .i64 0] 29) (cell_alloc_l (.cells #[.slice none 0 0] 37) a1.1))
  have g2 := cell_alloc_l (.cells #[.pointer (some ⟨D, 0, none⟩)] 28) (cell_alloc_l (.cells #[.int .i64 0] 29) a2.1)
  have f2 := frozen_alloc_l (.cells #[.pointer (some ⟨D, 0, none⟩)] 28) (cell_alloc_l (.cells #[.int .i64 0] 29) a2.1) (frozen_alloc_l (.cells #[.int .i64 0] 29) a2.1 a2.2)
  have g3 := cell_alloc_l (.cells #[.pointer (some ⟨D, 0, none⟩)] 28) a3.1
  have f3 := frozen_alloc_l (.cells #[.pointer (some ⟨D, 0, none⟩)] 28) a3.1 a3.2
  have g4 := a4.1
  have hsz : ((((w.alloc (.cells #[.int .i64 at_] 3)).alloc (.cells #[.slice none 0 0] 37)).alloc (.cells #[.int .i64 0] 29)).alloc (.cells #[.pointer (some ⟨D, 0, none⟩)] 28)).heap.size = w.heap.size + 4 := by simp
  clear a1 a2 a3 a4
  generalize ((((w.alloc (.cells #[.int .i64 at_] 3)).alloc (.cells #[.slice none 0 0] 37)).alloc (.cells #[.int .i64 0] 29)).alloc (.cells #[.pointer (some ⟨D, 0, none⟩)] 28)) = W0 at *
  have hd0 := HD.out.pure hx0
  obtain ⟨dd, kb, kc, pa, pc, c0, c1, c2, c3, c4, _⟩ := hd0.cells
  have hDlt := hd0.lt D hd0.mem
  obtain ⟨pb, hpb⟩ : ∃ pb, 0 < d.pend.length → pa = some ⟨pb, 0, none⟩ := by
    by_cases hP : 0 < d.pend.length
    · obtain ⟨pb, e, _⟩ := hd0.shot c4 0 hP
      exact ⟨pb, fun _ => e⟩
    · exact ⟨0, fun h => absurd h hP⟩
  have HSH : Hid (∀ W, Below W0.heap.size W0 W → ∀ x : Fin d.pend.length, W.rangeAt pb (x.1 * 65) (encShot (d.pend[x.1]'x.2)) ∧ (d.pend[x.1]'x.2).2.length = 64) := by
    intro W hW x
    have hdW := hd0.pure (Ex.of_below hW)
    have c4W := (Ex.of_below hW).cell (by simp) c4
    obtain ⟨pb', e, hr, hl, _⟩ := hdW.shot c4W x.1 x.2
    obtain rfl : pb' = pb := by have := hpb (Nat.lt_of_le_of_lt (Nat.zero_le _) x.2); rw [e] at this; simpa using this
    exact ⟨hr, hl⟩
  have HC := Lib.hid (And.intro c3 (And.intro hx0 hd0))
  clear c0 c1 c2 c3
  refine wpIn_wide.1 (wpIn_rangeFunc_ownF (F := Fence.wide) (n := 5) rfl (by decide) (gf := 105) (lb := #[.pointer (some ⟨w.heap.size + 3, 0, none⟩)]) rfl trivial (enters_of Tryz.func105 (by kernel_rfl) rfl)
    (encs := fun x : Fin d.pend.length => #[.pointer (some ⟨pb, x.1 * 65, none⟩)]) (Kp := Below W0.heap.size) (S := fun ys => ys.map Fin.val = latestOf d.pend.length d.pend.length) (Sp := fun pre => ∃ k, k < d.pend.length ∧ pre.map Fin.val = latestOf d.pend.length (k + 1)) (N := d.pend.length) (w0 := W0)
    (fun l J Jx W hW _ _ hY h0 => latest_in Fence.wide 4 trivial rfl (by decide) l _ D W0.heap.size pb d.pend.length pc pa hp hpb (by omega) hDlt J Jx hY W (hW.cell (p := ⟨w.heap.size + 3, 0, none⟩) (by show w.heap.size + 3 < _; omega) |>.trans g4) (hW.cell (p := ⟨D, 4, none⟩) hDlt |>.trans c4) h0)
    belowK_t (belowK_b (Nat.le_refl _)) (Below.refl _ _) (fun _ => rfl)
    (fun pre W => (∀ y ∈ pre, (d.pend[y.1]'y.2).1 ≠ at_) ∧ Below W0.heap.size W0 W)
    (fun c pre W => (c = .ret ∧ ∃ q x a cap, pre = q ++ [x] ∧ (∀ y ∈ q, (d.pend[y.1]'y.2).1 ≠ at_) ∧ (d.pend[x.1]'x.2).1 = at_ ∧ W.cell? ⟨w.heap.size + 1, 0, none⟩ = some (.slice a 64 cap) ∧ W.cell? ⟨w.heap.size + 1 + 1, 0, none⟩ = some (.int .i64 0) ∧ Own W 5 1 (.slice a 64 cap) 64 (encB (d.pend[x.1]'x.2).2) ∧ (∀ k ∈ bk (.slice a 64 cap), w.heap.size ≤ k)) ∧ Below w.heap.size w W)
    (OwnFrom.and (_root_.Go.Own.from (fun s A B row hs hg hr => hs) _) (ownFrom_below (Nat.le_refl _) (Nat.le_refl _)))
    (fun c => OwnFrom.and (_root_.Go.Own.from (fun s A B row hs hg hr => by
      obtain ⟨h1, q, x, a, cap, h2, h3, h4, h5, h6, h7, h8⟩ := hs
      exact ⟨h1, q, x, a, cap, h2, h3, h4, cell_kept h5 hg hr, cell_kept h6 hg hr, own_turned h7 hg hr, h8⟩) _) (ownFrom_below (Nat.le_refl _) (by omega)))
    ⟨by simp, Below.refl _ _⟩
    (fun x => { tmps := #[.pointer (some ⟨D, 0, none⟩), .int .i64 at_, undef, .pointer (some ⟨w.heap.size, 0, none⟩), .pointer (some ⟨w.heap.size + 1, 0, none⟩), .pointer (some ⟨w.heap.size + 1 + 1, 0, none⟩), .int .i64 0, .pointer (some ⟨pb, x.1 * 65, none⟩), .pointer (some ⟨D, 0, none⟩), .int .i64 0, .int .i64 0, .bool false, undef, .pointer (some ⟨D, 0, none⟩), .int .i64 at_, .bool true, .bool false, .pointer (some ⟨D, 0, none⟩), .func (.func 105) #[] #[.pointer (some ⟨w.heap.size + 1 + 1 + 1, 0, none⟩)], .pointer (some ⟨pb, x.1 * 65, none⟩), undef, undef, undef, undef, undef, undef, undef, undef, undef, undef, undef, undef, undef, undef, undef, undef, undef, undef, undef], defers := [] }) ?assign ?body ?done ?stop)
  case assign =>
    intro l x W K hK
    gi_wp2
    exact hK
  case body =>
    rintro l pre x W ⟨hI, hB⟩ hlen
    have hmx : Tryz.prog.follows .mixedOrders = true := by kernel_rfl
    obtain ⟨hr, hl64⟩ := HSH.out W hB x
    have p0 : W.cell? ⟨pb, x.1 * 65, none⟩ = some (.int .i64 (d.pend[x.1]'x.2).1) := by simpa using hr 0 _ rfl
    have b1 := (hB.cell (p := ⟨w.heap.size, 0, none⟩) (by show w.heap.size < _; omega)).trans g1
    have b2 := (hB.cell (p := ⟨w.heap.size + 1, 0, none⟩) (by show w.heap.size + 1 < _; omega)).trans g2
    have b3 := (hB.cell (p := ⟨w.heap.size + 1 + 1, 0, none⟩) (by show w.heap.size + 1 + 1 < _; omega)).trans g3
    have hfr := frozen_below hB
    have e2 := (hfr ⟨w.heap.size + 1, 0, none⟩ (by show w.heap.size + 1 < _; omega)).trans f2
    have e3 := (hfr ⟨w.heap.size + 1 + 1, 0, none⟩ (by show w.heap.size + 1 + 1 < _; omega)).trans f3
    have hsl : Rd W 1 (.slice (some ⟨pb, x.1 * 65 + 1, none⟩) (d.pend[x.1]'x.2).2.length 64) (d.pend[x.1]'x.2).2.length (encB (d.pend[x.1]'x.2).2) :=
      ⟨by rw [encB_length, Nat.mul_one], _, 64, rfl, by omega, by decide, by simp, fun _ => ⟨pb, _, rfl, fun j u hj => by have := hr (j + 1) u hj; rw [← this]; congr 2; omega⟩⟩
    have HSL := Lib.hid hsl
    have HL64 := Lib.hid hl64
    clear g1 g2 g3 f2 f3 hr hl64 hsl hfr
    have hpe : d.pend[x.1]'x.2 = d.pend[x.1]'x.2 := rfl
    generalize hpq : d.pend[x.1]'x.2 = p at *
    clear hpe
    by_cases he : p.1 = at_
    · have he2 : ((p.1 : Int) == (at_ : Int)) = true := by rw [he]; simp
      have HE := Lib.hid he
      clear he
      gi_wp2
      gi_region_with_o (fail)
      all_goals gi_wp2
      all_goals refine ⟨trivial, ?_⟩
      all_goals refine (CallsIn.inRound l (callsIn_wide.2 (SClone_64 W.drew p.2 ⟨pb, x.1 * 65 + 1, none⟩ 64 (HSL.out.pure ((Ex.refl [] W).drew)) HL64.out))).mono ?_
      all_goals rintro e w' ⟨a', cap', rfl, ho, hxw, hk⟩
      all_goals have hx1 : Ex [] W w' := ((Ex.refl [] W).drew).pure hxw
      all_goals have d2 := hx1.cell (by simp) b2
      all_goals have d3 := hx1.cell (by simp) b3
      all_goals have e2' := (frozen_below hx1.below ⟨w.heap.size + 1, 0, none⟩ (lt_of_block_cell b2)).trans e2
      all_goals have e3' := (frozen_below hx1.below ⟨w.heap.size + 1 + 1, 0, none⟩ (lt_of_block_cell b3)).trans e3
      all_goals have hne1 : (⟨w.heap.size + 1, 0, none⟩ : Addr).block ∉ bk (.slice a' 64 cap') := fun hm => by have := hk _ hm; have := lt_of_block_cell b2; simp at *; omega
      all_goals have hne2 : (⟨w.heap.size + 1 + 1, 0, none⟩ : Addr).block ∉ bk (.slice a' 64 cap') := fun hm => by have := hk _ hm; have := lt_of_block_cell b3; simp at *; omega
      all_goals have HO := Lib.hid (And.intro ho (And.intro hx1 (And.intro hk (And.intro hne1 hne2))))
      all_goals clear ho hxw hx1 hk b1 b2 b3 e2 e3 hne1 hne2 p0
      all_goals gi_wp2
      all_goals obtain ⟨ho, hx1, hk, hne1, hne2⟩ := HO.out
      all_goals refine ⟨((keepsOthers_ex hx1).trans (KeepsOthers.setCell _ _ _)).trans (KeepsOthers.setCell _ _ _), ⟨rfl, pre, x, a', cap', rfl, hI, by rw [hpq]; exact HE.out, ?_, ?_, ?_, fun k hk' => ?_⟩, ?_⟩
      all_goals first
        | (have hk2 : W.heap.size ≤ k := hk k hk'; have := hB.size; omega)
        | (rw [hpq]; exact ownsRow_setCell_other (ownsRow_setCell_other ho (fun e => hne1 (by rw [bk]; simp [e])) _) (fun e => hne2 (by rw [bk]; simp [e])) _)
        | exact cell_set_same ((World.cell?_setCell_far _ _ _ _ (by simp)).trans d3)
        | exact (World.cell?_setCell_far _ _ _ _ (by simp)).trans (cell_set_same d2)
        | exact (((hx0.below.trans (hB.mono (by omega))).trans (hx1.below.mono (by have := hB.size; omega))).setCell (p := ⟨w.heap.size + 1, 0, none⟩) (by show w.heap.size ≤ w.heap.size + 1; omega) _).setCell (p := ⟨w.heap.size + 1 + 1, 0, none⟩) (by show w.heap.size ≤ w.heap.size + 1 + 1; omega) _
    · have he2 : ((p.1 : Int) == (at_ : Int)) = false := by simpa using fun h => he (by omega)
      have HE := Lib.hid he
      clear he
      gi_wp2
      gi_region_with_o (fail)
      all_goals gi_wp2
      all_goals exact ⟨KeepsOthers.drew _, (Below.refl _ _).drew, fun y hy => (List.mem_append.1 hy).elim (hI y) (fun h => by simp at h; subst h; rw [hpq]; exact HE.out), hB.drew⟩
  case done =>
    rintro Dd ys W hDd hys ⟨hI, hB⟩ hK
    have hall : ∀ p ∈ d.pend, p.1 ≠ at_ := by
      intro p hp
      obtain ⟨i, hi, rfl⟩ := List.getElem_of_mem hp
      have hm : i ∈ ys.map Fin.val := by
        rw [hys]
        simp only [latestOf, List.mem_map, List.mem_range]
        exact ⟨d.pend.length - 1 - i, by omega, by omega⟩
      obtain ⟨y, hy, e⟩ := List.mem_map.1 hm
      have := hI y hy
      simpa [e] using this
    have hx2 := Ex.of_below hB
    have b3 := (hx2.cell (by simp) HC.out.1)
    have hdW := HC.out.2.2.pure hx2
    obtain ⟨s1, s2, s3⟩ := hdW.sector b3 at_ hat
    have hse := seen_kept d at_ hat hall
    have HS := Lib.hid (And.intro s1 (And.intro s3 hse))
    have b1 := (hB.cell (p := ⟨w.heap.size, 0, none⟩) (by show w.heap.size < _; omega)).trans g1
    have b2 := (hB.cell (p := ⟨w.heap.size + 1, 0, none⟩) (by show w.heap.size + 1 < _; omega)).trans g2
    have b4 := (hB.cell (p := ⟨w.heap.size + 1 + 1, 0, none⟩) (by show w.heap.size + 1 + 1 < _; omega)).trans g3
    have e2 := (frozen_below hB ⟨w.heap.size + 1, 0, none⟩ (by show w.heap.size + 1 < _; omega)).trans f2
    have e3 := (frozen_below hB ⟨w.heap.size + 1 + 1, 0, none⟩ (by show w.heap.size + 1 + 1 < _; omega)).trans f3
    have HK := Lib.hid hK
    have hDw : D < w.heap.size := HD.out.lt D HD.out.mem
    have hBw : Below w.heap.size w W := hx0.below.trans (hB.mono (by omega))
    have HB := Lib.hid hBw
    have n1 : w.heap.size + 1 ≠ D := by omega
    have n2 : w.heap.size + 1 + 1 ≠ D := by omega
    have n3 : w.heap.size ≠ D := by omega
    clear s1 s2 hse hall hI hys hdW hx2 g1 g2 g3 f2 f3 hK hBw
    go_wp2_with fail
    go_region_held3 (fun w' => w'.cell? ⟨D, 3, none⟩ = some (.slice (some ⟨kb, 0, none⟩) d.kept.length kc) ∧ w'.cell? ⟨w.heap.size, 0, none⟩ = some (.int .i64 at_))
      (first | (simp [*, World.cell?_setCell_far]; done) | (refine ⟨?_, ?_⟩ <;> first | assumption | (rw [World.cell?_setCell_far _ _ _ _ (by first | assumption | (simp; done) | (simp; omega))]; first | assumption | (rw [World.cell?_setCell_far _ _ _ _ (by first | assumption | (simp; done) | (simp; omega))]; assumption))))
      (first | (go_at_call 77; refine (SClone_64 W.drew d.kept[at_] ⟨kb, at_ * 64, none⟩ 64 (by rw [HS.out.2.1]; exact HS.out.1.pure ((Ex.refl [] W).drew)) HS.out.2.1).mono ?_; rintro e w1 ⟨a', cap', rfl, ho, hxw, hk⟩; have d5 := hxw.cell (by simp) (show W.drew.cell? ⟨D, 3, none⟩ = _ from b3); have d6 := hxw.cell (by simp) (show W.drew.cell? ⟨w.heap.size, 0, none⟩ = _ from b1); have d2 := hxw.cell (by simp) (show W.drew.cell? ⟨w.heap.size + 1, 0, none⟩ = _ from b2); have d3 := hxw.cell (by simp) (show W.drew.cell? ⟨w.heap.size + 1 + 1, 0, none⟩ = _ from b4); have e2' := (frozen_below hxw.below ⟨w.heap.size + 1, 0, none⟩ (lt_of_block_cell b2)).trans e2; have e3' := (frozen_below hxw.below ⟨w.heap.size + 1 + 1, 0, none⟩ (lt_of_block_cell b4)).trans e3))
    go_wp2_with fail
    have hx1 : Ex [] W w1 := ((Ex.refl [] W).drew).pure hxw
    have hBf : Below w.heap.size w ((w1.setCell ⟨w.heap.size + 1, 0, none⟩ (.slice a' 64 cap')).setCell ⟨w.heap.size + 1 + 1, 0, none⟩ (.int .i64 0)) := ((HB.out.trans (hx1.below.mono HB.out.size)).setCell (p := ⟨w.heap.size + 1, 0, none⟩) (by show w.heap.size ≤ w.heap.size + 1; omega) _).setCell (p := ⟨w.heap.size + 1 + 1, 0, none⟩) (by show w.heap.size ≤ w.heap.size + 1 + 1; omega) _
    have hKf := (((keepsOthers_ex hx1).trans (KeepsOthers.setCell w1 ⟨w.heap.size + 1, 0, none⟩ (.slice a' 64 cap'))).trans (KeepsOthers.setCell _ ⟨w.heap.size + 1 + 1, 0, none⟩ (.int .i64 0))).same Dd _ HK.out rfl
    have hne1 : (⟨w.heap.size + 1, 0, none⟩ : Addr).block ∉ bk (.slice a' 64 cap') := fun hm => by have h1 : W.heap.size ≤ w.heap.size + 1 := hk _ hm; have h2 : w.heap.size + 1 < W.heap.size := lt_of_block_cell b2; omega
    have hne2 : (⟨w.heap.size + 1 + 1, 0, none⟩ : Addr).block ∉ bk (.slice a' 64 cap') := fun hm => by have h1 : W.heap.size ≤ w.heap.size + 1 + 1 := hk _ hm; have h2 : w.heap.size + 1 + 1 < W.heap.size := lt_of_block_cell b4; omega
    have hof := ownsRow_setCell_other (a := ⟨w.heap.size + 1 + 1, 0, none⟩) (ownsRow_setCell_other (a := ⟨w.heap.size + 1, 0, none⟩) ho (fun e => hne1 (by rw [bk]; simp [e])) (.slice a' 64 cap')) (fun e => hne2 (by rw [bk]; simp [e])) (.int .i64 0)
    have hc1 := (World.cell?_setCell_far _ ⟨w.heap.size + 1 + 1, 0, none⟩ ⟨w.heap.size + 1, 0, none⟩ (.int .i64 0) (by show w.heap.size + 1 + 1 ≠ w.heap.size + 1; omega)).trans (cell_set_same (v := .slice a' 64 cap') d2)
    have hc2 := cell_set_same (v := .int .i64 0) ((World.cell?_setCell_far w1 ⟨w.heap.size + 1, 0, none⟩ ⟨w.heap.size + 1 + 1, 0, none⟩ (.slice a' 64 cap') (by show w.heap.size + 1 ≠ w.heap.size + 1 + 1; omega)).trans d3)
    have hfz : ∀ k ∈ bk (.slice a' 64 cap'), w.heap.size ≤ k := fun k hm => by have h1 : W.heap.size ≤ k := hk k hm; have := HB.out.size; omega
    exact read_out (by omega) HS.out.2.2.symm hBf hKf hof hc1 hc2 hfz
  case stop =>
    rintro Dd c pre W hDd ⟨k, hkP, hpre⟩ ⟨⟨rfl, q, x, a, cap, rfl, hq, hx, hc1, hc2, hof, hfz⟩, hB⟩ hK
    rw [latestOf_succ, List.map_append] at hpre
    obtain ⟨e1, e2⟩ := List.append_inj' hpre rfl
    have ex : x.1 = d.pend.length - 1 - k := by simpa using e2
    have hse : d.seen at_ = (d.pend[x.1]'x.2).2 := by
      refine seen_pend d at_ x.1 x.2 hx fun y hy hyP => ?_
      have hm : y ∈ q.map Fin.val := by
        rw [e1]
        simp only [latestOf, List.mem_map, List.mem_range]
        exact ⟨d.pend.length - 1 - y, by omega, by omega⟩
      obtain ⟨z, hz, e⟩ := List.mem_map.1 hm
      have := hq z hz
      simpa [e] using this
    gi_wp2
    exact read_out (by omega) hse.symm hB hK hof hc1 hc2 hfz
end Go.Proofs.YtckmpdplmpgniaaGreat
