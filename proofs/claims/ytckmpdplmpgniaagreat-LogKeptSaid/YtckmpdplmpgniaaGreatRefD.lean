/- Contracts of the document's answer of layer 4 at the chapter's example: a write of sector 0. No condition but ranges. -/
import Derived.Test.YtckmpdplmpgniaaGreatRefA
import Derived.Test.YtckmpdplmpgniaaGreatLogE
namespace Go.Proofs.YtckmpdplmpgniaaGreat
open Go Go.RowKit

theorem info_wait : (Tryz.prog.info? 223).map (fun i => (i.zero, i.size, i.bytes)) = some (some (.agg #[.int .i64 0, .slice none 0 0]), 2, 32) := by kernel_rfl

theorem own_some {w : World} {e : TypeId} {size n cap : Nat} {a : Option Addr} {xs : List Value} (h : Own w e size (.slice a n cap) n xs) (hn : 0 < n) : ∃ g, a = some ⟨g, 0, none⟩ := by
  rcases h.2 with ⟨h1, h2⟩ | ⟨g, cap', cur, hv, _⟩
  · cases h1; omega
  · simp only [Value.slice.injEq] at hv
    exact ⟨g, hv.1⟩

set_option maxRecDepth 100000 in
set_option maxHeartbeats 4000000 in
theorem rWrite_ex (w : World) (E dd : Nat) (F : List Nat) (all : List UInt8) (v : Value) (b : List UInt8) (hl : all.length = 384) (hdd : dd ≤ 500) (h : RD0 w E F all dd) (hv : RdB w v b) (hb : b.length ≤ 64) (hoff : ∀ k ∈ bk v, k ∉ F) :
    Calls Tryz.prog 121 #[.pointer (some ⟨E, 0, none⟩), .int .i64 0, v] w fun x w' => x = .returned (.int .i64 0) ∧ ∃ F', RD1 w' E F' all (dd + 1) (pad64 b) ∧ Sw w F F' ∧ Ex F w w' := by
  have HD := Lib.hid h
  have HV := Lib.hid hv
  have HO := Lib.hid hoff
  have HL := Lib.hid hl
  obtain ⟨av, hF, hbk, hoa⟩ := h
  have HF := Lib.hid hF
  have HB := Lib.hid hbk
  have HA := Lib.hid hoa
  obtain ⟨_, a, cap, rfl, _, _, _, _⟩ := hv
  have c4 : w.cell? ⟨E, 4, none⟩ = some (.bool false) := by rw [cell_of_block hbk]; rfl
  have k1 : decide ((64 : Int) < (b.length : Int)) = false := by simp; omega
  obtain ⟨i0, hi, hz0, hz1, hz2⟩ := info_parts info_u8
  clear hF hbk hoa hl hoff
  go_enter Tryz.func121, Tryz.ntmps121
  go_wp2_with fail
  refine (rSects_ex w E dd F all HL.out HD.out).mono ?_
  rintro e w' ⟨rfl, rfl⟩
  go_wp2_with fail
  refine (rDeed_ex w E dd #[] _ av _ (by omega) HB.out).mono ?_
  rintro e w1 ⟨rfl, hw1⟩
  have hb1 : w1.heap[E]? = some (.cells #[av, .slice none 0 0, .int .i64 (dd + 1 : Nat), .int .i64 0, .bool false] 181 (0, 0)) := by rw [hw1]; exact block_setCell (j := 2) HB.out
  have ha1 : Own w1 5 1 av all.length (encB all) := by rw [hw1]; exact own_ex HA.out ((Ex.refl [E] w).setCell (.inl (by simp)) _) (fun k hk hm => by simp at hm; subst hm; simp [bk] at hk; exact owns_ne HA.out HB.out (by decide) hk.symm)
  have hx1 : Ex F w w1 := by rw [hw1, HF.out]; exact (Ex.refl _ w).setCell (.inl (by simp)) _
  have hv1 := HV.out.ex hx1 (fun k hk _ => HO.out k hk)
  have H1 := Lib.hid (And.intro hb1 (And.intro ha1 (And.intro hx1 hv1)))
  clear hb1 ha1 hx1 hv1 hw1
  go_wp2_with (first
    | (at_make; refine wpList_make_full _ rfl _ _ 37 rfl 0 5 i0 _ 1 Tryz.underlying37 hi hz0 hz1 _ _ _ _ 64 rfl rfl rfl rfl (by rw [hz2]; omega) (by unfold maxLen; omega) (Nat.zero_le _) ?_; intro w2 hown2 hgrow2; rw [made_bytes] at hown2; have hx2 : Ex [] w1 w2 := (Ex.refl [] w1).grown hgrow2 (by simp); have H2 := Lib.hid (And.intro (H1.out.1) (And.intro hx2 hown2)); clear hx2 hown2 hgrow2)
    | (refine wpList_cop (o := ⟨some 31, _, _, _, _, _⟩) w2 rfl _ _ _ _ rfl Tryz.underlying37 info_u8' w1.heap.size 0 64 64 rfl (.slice a b.length cap) b.length (encB b) rfl (H1.out.2.2.2.pure H2.out.2.1) (encB_oneCell _) hb (own_there H2.out.2.2 0 _ (by omega)) ?_; have hx3 : Ex [] w1 (w2.setCells w1.heap.size 0 (encB b)) := H2.out.2.1.off (ex_setCells _) (by simp); have ho3 := (own_setCells (encB b) 0 H2.out.2.2).1; rw [over_pad b hb] at ho3; have hb3 := hx3.obj H1.out.1 (by simp); have c1 : (w2.setCells w1.heap.size 0 (encB b)).cell? ⟨E, 1, none⟩ = some (.slice none 0 0) := (by rw [cell_of_block hb3]; rfl); generalize w2.setCells w1.heap.size 0 (encB b) = w3 at *; have H3 := Lib.hid (And.intro hx3 (And.intro ho3 hb3)); clear hx3 ho3 hb3)
    | (at_builtin; refine wpList_app _ rfl _ _ 179 rfl Tryz.underlying179 info_wait rfl (by decide) (.slice none 0 0) 0 [] rfl (World.ownsRow_nil _ _ _ _) _ 1 [.int .i64 0, .slice (some ⟨w1.heap.size, 0, none⟩) 64 64] rfl (rd_new w3 #[.int .i64 0, .slice (some ⟨w1.heap.size, 0, none⟩) 64 64] _ 2 1 rfl (by decide)) (by intro u hu; simp at hu; rcases hu with rfl | rfl <;> rfl) (by unfold maxLen; omega) (by omega) ?_; intro a' cap' w4 hown4 hgrow4 hsw4 hnl4; have hx4 : Ex [] w3 w4 := ((Ex.refl [] w3).alloc _).grown hgrow4 (by simp [Value.ownBlock]); have hb4 := hx4.obj H3.out.2.2 (by simp); have f4 : w4.frozen? ⟨E, 1, none⟩ = false := free_of_block hb4; have d4 : w4.cell? ⟨E, 1, none⟩ = some (.slice none 0 0) := (by rw [cell_of_block hb4]; rfl); have H4 := Lib.hid (And.intro hx4 (And.intro hown4 (And.intro hsw4 hb4))); clear hx4 hown4 hgrow4 hsw4 hnl4 hb4))
  go_ret
  obtain ⟨hx4, hown4, hsw4, hb4⟩ := H4.out
  obtain ⟨hx3, ho3, hb3⟩ := H3.out
  obtain ⟨hb1, ha1, hx1, hv1⟩ := H1.out
  simp only [Nat.zero_add, List.nil_append] at hown4
  obtain ⟨g, rfl⟩ := own_some hown4 (by decide)
  have hz : w3.heap.size + 0 ≤ g := by
    rcases hsw4 g (by simp [bk, Value.ownBlock]) with h | h
    · simp [bk, Value.ownBlock] at h
    · rw [h]; simp
  obtain ⟨s1, s2⟩ := store_row (j := 1) hb4 hown4 (by decide)
  have hx5 : Ex [E] w4 (w4.setCell ⟨E, 1, none⟩ (.slice (some ⟨g, 0, none⟩) 1 cap')) := (Ex.refl [E] w4).setCell (.inl (by simp)) _
  have hE1 : E < w1.heap.size := lt_of_block hb1
  have ha5 := own_ex (own_pure (own_pure ha1 hx3) hx4) hx5 (fun k hk hm => by simp at hm; subst hm; simp [bk] at hk; exact owns_ne (own_pure (own_pure ha1 hx3) hx4) hb4 (by decide) hk.symm)
  have hf5 := own_ex (own_pure ho3 hx4) hx5 (fun k hk hm => by simp at hm; subst hm; simp [bk, Value.ownBlock] at hk; omega)
  refine ⟨rfl, E :: (bk av ++ g :: bk (.slice (some ⟨w1.heap.size, 0, none⟩) 64 64)), ⟨av, g, cap', .slice (some ⟨w1.heap.size, 0, none⟩) 64 64, rfl, s1, ha5, s2, hf5, pad64_length b hb⟩, ?_, ?_⟩
  · intro k hk
    have e3 := hx3.size
    have e1 := hx1.size
    rw [HF.out]
    simp only [List.mem_cons, List.mem_append] at hk ⊢
    rcases hk with rfl | hk | rfl | hk
    · exact .inl (.inl rfl)
    · exact .inl (.inr hk)
    · exact .inr (by omega)
    · simp [bk, Value.ownBlock] at hk
      exact .inr (by omega)
  · refine ((hx1.pure hx3).pure hx4).trans hx5 (fun k hk => .inl ?_)
    rw [HF.out]
    simp at hk
    simp [hk]
end Go.Proofs.YtckmpdplmpgniaaGreat
/- Contracts of the document's answer of layer 4 at the chapter's example: Flush, Read. No condition but ranges. -/
namespace Go.Proofs.YtckmpdplmpgniaaGreat
open Go Go.RowKit

/-- copy into a row of the call's own, as an operation of a region that is gone through by hand. -/
theorem step_cop {P : Program} {ops : Array Oper} {Q : Exit → Act → World → Prop} {K : Act → World → Prop} (w : World) {o : Oper} {a : Act} (hw : Region.wanted o (yielded ops a.tmps) = true) (s x : Operand) (t t' : TypeId)
    (ho : o.op = .call { callee := .builtin .copy, args := #[s, x], argTypes := #[t, t'] }) {e : TypeId} (ht : P.underlying t = some (.slice e)) (hinfo : (P.info? e).map (·.size) = some 1)
    (b o' dLen dCap : Nat) (hs : a.eval s = .slice (some ⟨b, o', none⟩) dLen dCap) (y : Value) (n : Nat) (cs : List Value) (hx : a.eval x = y) (hy : Rd w 1 y n cs) (h1 : ∀ u ∈ cs, u.oneCell' = true) (hn : n ≤ dLen) (hth : w.there b o' n)
    (h : K (a.put o.dst (goInt n)) (w.setCells b o' cs)) : if Region.wanted o (yielded ops a.tmps) = true then Oper.wp P o a w K Q else K (a.put o.dst undef) w := by
  rw [if_pos hw]
  have hr := run_copy_any (P := P) w t t' o.type e b o' dLen dCap ht hinfo hy h1 hn hth
  unfold Oper.wp execOp
  simp only [ho, resolve, invoke, builtin, Sem.run_bind, Sem.run_pure, Result.andThen_ok, List.map_toArray, List.map_cons, List.map_nil, hs, hx, hr]
  exact h

theorem over_front (all full : List UInt8) (h : full.length ≤ all.length) : over (encB all) 0 (encB full) = encB (full ++ all.drop full.length) := by
  apply List.ext_getElem?
  intro i
  rw [over_get _ _ _ (by rw [encB_length, encB_length]; omega)]
  rw [encB_get, encB_get, encB_get, encB_length, Nat.zero_add, Nat.sub_zero]
  by_cases hi : i < full.length
  · rw [if_pos ⟨Nat.zero_le _, hi⟩, List.getElem?_append_left hi]
  · rw [if_neg (fun h => hi h.2), List.getElem?_append_right (by omega), List.getElem?_drop]
    congr 2
    omega

set_option maxRecDepth 100000 in
set_option maxHeartbeats 4000000 in
theorem rKeep_ex (w : World) (E : Nat) (av wv dv lv bv fv : Value) (all full : List UInt8) (hl : all.length = 384) (hfl : full.length = 64) (hb : w.heap[E]? = some (.cells #[av, wv, dv, lv, bv] 181 (0, 0)))
    (ha : Own w 5 1 av all.length (encB all)) (hf : Own w 5 1 fv 64 (encB full)) :
    Calls Tryz.prog 142 #[.pointer (some ⟨E, 0, none⟩), .agg #[.int .i64 0, fv]] w fun x w' => x = .returned (.tuple #[]) ∧ Own w' 5 1 av all.length (encB (full ++ all.drop 64)) ∧ Ex (bk av) w w' := by
  rw [hl] at ha
  have HA := Lib.hid ha
  have HF := Lib.hid hf
  have HL := Lib.hid hl
  have HFL := Lib.hid hfl
  obtain ⟨_, a0, ac, rfl, hac, _⟩ := rd_of_owns ha
  obtain ⟨ab, rfl⟩ := own_some ha (by decide)
  obtain ⟨_, fa, fc, rfl, _⟩ := rd_of_owns hf
  have c0 : w.cell? ⟨E, 0, none⟩ = some (.slice (some ⟨ab, 0, none⟩) 384 ac) := by rw [cell_of_block hb]; rfl
  have hE := lt_of_block hb
  have ew : IntKind.i64.wrap 0 = 0 := by kernel_rfl
  clear hb ha hf hl hfl
  go_enter Tryz.func142, Tryz.ntmps142
  go_wp2_with fail
  have hx1 : Ex [] w (w.alloc (.cells #[.int .i64 0, .slice fa 64 fc] 223)).drew := ((Ex.refl [] w).alloc _).drew
  have hT : (w.alloc (.cells #[.int .i64 0, .slice fa 64 fc] 223)).drew.cell? ⟨E, 0, none⟩ = some (.slice (some ⟨ab, 0, none⟩) 384 ac) ∧ (w.alloc (.cells #[.int .i64 0, .slice fa 64 fc] 223)).drew.cell? ⟨w.heap.size, 0, none⟩ = some (.int .i64 0) ∧ (w.alloc (.cells #[.int .i64 0, .slice fa 64 fc] 223)).drew.cell? ⟨w.heap.size, 1, none⟩ = some (.slice fa 64 fc) := by
    refine ⟨hx1.cell (by simp) c0, ?_, ?_⟩
    · exact (cell_of_block (heap_alloc_new w _)).trans rfl
    · exact (cell_of_block (heap_alloc_new w _)).trans rfl
  refine wp_region_L 10 (fun w' => w'.cell? ⟨E, 0, none⟩ = some (.slice (some ⟨ab, 0, none⟩) 384 ac) ∧ w'.cell? ⟨w.heap.size, 0, none⟩ = some (.int .i64 0) ∧ w'.cell? ⟨w.heap.size, 1, none⟩ = some (.slice fa 64 fc)) (by kernel_rfl) ?_
  have HX1 := Lib.hid hx1
  clear hx1
  generalize (w.alloc (.cells #[.int .i64 0, .slice fa 64 fc] 223)).drew = w1 at *
  refine wpL_take (i := 0) (oi := ⟨some 4, _, _, _, _, _⟩) (v := (.pointer (some ⟨E, 0, none⟩))) rfl (by kernel_rfl) (by kernel_rfl) (by kernel_rfl) (by kernel_rfl) (by decide) (fun _ _ _ h => h) (Or.inl ⟨by rfl, by intro w hSw; go_simp⟩) hT ?_
  try simp only [Act.put, List.setIfInBounds_toArray, List.set_cons_zero, List.set_cons_succ]
  refine wpL_take (i := 1) (oi := ⟨some 5, _, _, _, _, _⟩) (v := (.pointer (some ⟨E, 0, none⟩))) rfl (by kernel_rfl) (by kernel_rfl) (by kernel_rfl) (by kernel_rfl) (by decide) (fun _ _ _ h => h) (Or.inl ⟨by rfl, by intro w hSw; go_simp⟩) hT ?_
  try simp only [Act.put, List.setIfInBounds_toArray, List.set_cons_zero, List.set_cons_succ]
  refine wpL_take (i := 2) (oi := ⟨some 6, _, _, _, _, _⟩) (v := (.pointer (some ⟨E, 0, none⟩))) rfl (by kernel_rfl) (by kernel_rfl) (by kernel_rfl) (by kernel_rfl) (by decide) (fun _ _ _ h => h) (Or.inl ⟨by rfl, by intro w hSw; go_simp⟩) hT ?_
  try simp only [Act.put, List.setIfInBounds_toArray, List.set_cons_zero, List.set_cons_succ]
  refine wpL_take (i := 3) (oi := ⟨some 7, _, _, _, _, _⟩) (v := (.slice (some ⟨ab, 0, none⟩) 384 ac)) rfl (by kernel_rfl) (by kernel_rfl) (by kernel_rfl) (by kernel_rfl) (by decide) (fun _ _ _ h => h) (Or.inl ⟨by rfl, by intro w hSw; go_simp⟩) hT ?_
  try simp only [Act.put, List.setIfInBounds_toArray, List.set_cons_zero, List.set_cons_succ]
  refine wpL_take (i := 4) (oi := ⟨some 8, _, _, _, _, _⟩) (v := (.pointer (some ⟨w.heap.size, 0, none⟩))) rfl (by kernel_rfl) (by kernel_rfl) (by kernel_rfl) (by kernel_rfl) (by decide) (fun _ _ _ h => h) (Or.inl ⟨by rfl, by intro w hSw; go_simp⟩) hT ?_
  try simp only [Act.put, List.setIfInBounds_toArray, List.set_cons_zero, List.set_cons_succ]
  refine wpL_take (i := 5) (oi := ⟨some 9, _, _, _, _, _⟩) (v := (.int .i64 0)) rfl (by kernel_rfl) (by kernel_rfl) (by kernel_rfl) (by kernel_rfl) (by decide) (fun _ _ _ h => h) (Or.inl ⟨by rfl, by intro w hSw; go_simp⟩) hT ?_
  try simp only [Act.put, List.setIfInBounds_toArray, List.set_cons_zero, List.set_cons_succ]
  refine wpL_take (i := 6) (oi := ⟨some 10, _, _, _, _, _⟩) (v := (.int .i64 0)) rfl (by kernel_rfl) (by kernel_rfl) (by kernel_rfl) (by kernel_rfl) (by decide) (fun _ _ _ h => h) (Or.inl ⟨by rfl, by intro w hSw; go_simp⟩) hT ?_
  try simp only [Act.put, List.setIfInBounds_toArray, List.set_cons_zero, List.set_cons_succ]
  refine wpL_take (i := 7) (oi := ⟨some 11, _, _, _, _, _⟩) (v := (.slice (some ⟨ab, 0, none⟩) 384 ac)) rfl (by kernel_rfl) (by kernel_rfl) (by kernel_rfl) (by kernel_rfl) (by decide) (fun _ _ _ h => h) (Or.inl ⟨by rfl, by intro w hSw; go_simp⟩) hT ?_
  try simp only [Act.put, List.setIfInBounds_toArray, List.set_cons_zero, List.set_cons_succ]
  refine wpL_take (i := 8) (oi := ⟨some 12, _, _, _, _, _⟩) (v := (.pointer (some ⟨w.heap.size, 1, none⟩))) rfl (by kernel_rfl) (by kernel_rfl) (by kernel_rfl) (by kernel_rfl) (by decide) (fun _ _ _ h => h) (Or.inl ⟨by rfl, by intro w hSw; go_simp⟩) hT ?_
  try simp only [Act.put, List.setIfInBounds_toArray, List.set_cons_zero, List.set_cons_succ]
  refine wpL_take (i := 9) (oi := ⟨some 13, _, _, _, _, _⟩) (v := (.slice fa 64 fc)) rfl (by kernel_rfl) (by kernel_rfl) (by kernel_rfl) (by kernel_rfl) (by decide) (fun _ _ _ h => h) (Or.inl ⟨by rfl, by intro w hSw; go_simp⟩) hT ?_
  try simp only [Act.put, List.setIfInBounds_toArray, List.set_cons_zero, List.set_cons_succ]
  refine wpL_ready (rs := [10]) (by kernel_rfl) (by simp) ?_
  refine AllNext.cons (o := _) rfl (fun K hK => ?_) AllNext.nil
  have ho1 := own_pure HA.out HX1.out
  have hth : w1.there ab 0 64 := own_there ho1 0 _ (by omega)
  refine step_cop w1 (by rfl) _ _ _ _ (by rfl) Tryz.underlying37 info_u8' ab 0 384 ac (by rfl) (.slice fa 64 fc) 64 (encB full) (by rfl) (rd_of_owns (own_pure HF.out HX1.out)) (encB_oneCell _) (by omega) hth ?_
  have HS := Lib.hid (own_setCells (encB full) 0 ho1)
  clear ho1 hth
  refine hK.out _ _ (fun h => absurd h (by decide)) ?_
  clear hK K
  refine wpL_done (by kernel_rfl) ?_ _
  go_end0
  have hs := HS.out
  rw [over_front all full (by rw [HFL.out, HL.out]; decide), HFL.out] at hs
  refine ⟨rfl, ?_, HX1.out.of_nil.trans hs.2 (fun k hk => .inl (by simpa [bk, Value.ownBlock] using hk))⟩
  rw [HL.out]
  exact hs.1

set_option maxRecDepth 100000 in
set_option maxHeartbeats 4000000 in
theorem rFlush_ex (w : World) (E dd : Nat) (F : List Nat) (all full : List UInt8) (hl : all.length = 384) (hdd : dd ≤ 500) (h : RD1 w E F all dd full) :
    Calls Tryz.prog 123 #[.pointer (some ⟨E, 0, none⟩)] w fun x w' => x = .returned (.int .i64 0) ∧ ∃ F', RD0 w' E F' (full ++ all.drop 64) (dd + 1) ∧ Sw w F F' ∧ Ex F w w' := by
  obtain ⟨av, g, wc, fv, hF, hb, ha, hw, hf, hfl⟩ := h
  have HF := Lib.hid hF
  have HB := Lib.hid hb
  have HL := Lib.hid hl
  have HFL := Lib.hid hfl
  have hne1 := owns_ne ha hb (by decide)
  have hne2 := owns_ne hw hb (by decide)
  have hne3 := owns_ne hf hb (by decide)
  have c4 : w.cell? ⟨E, 4, none⟩ = some (.bool false) := by rw [cell_of_block hb]; rfl
  have hx1 : Ex [E] w (w.setCell ⟨E, 2, none⟩ (.int .i64 (dd + 1 : Nat))) := (Ex.refl [E] w).setCell (.inl (by simp)) _
  have ha1 := own_ex ha hx1 (fun k hk hm => by simp at hm; subst hm; simp [bk] at hk; exact hne1 hk.symm)
  have hw1 := own_ex hw hx1 (fun k hk hm => by simp at hm; subst hm; simp [bk] at hk; exact hne2 hk.symm)
  have hf1 := own_ex hf hx1 (fun k hk hm => by simp at hm; subst hm; simp [bk] at hk; exact hne3 hk.symm)
  have hb1 : (w.setCell ⟨E, 2, none⟩ (.int .i64 (dd + 1 : Nat))).heap[E]? = some (.cells #[av, .slice (some ⟨g, 0, none⟩) 1 wc, .int .i64 (dd + 1 : Nat), .int .i64 0, .bool false] 181 (0, 0)) := block_setCell (j := 2) hb
  have HX1 := Lib.hid (And.intro hx1 (And.intro ha1 (And.intro hw1 (And.intro hf1 hb1))))
  have hgw := own_lt hw
  clear hF ha hw hf hx1 ha1 hw1 hf1 hb1 hb hl hfl hne1 hne2 hne3
  go_enter Tryz.func123, Tryz.ntmps123
  go_wp2_with fail
  refine (rDeed_ex w E dd #[] _ av _ (by omega) HB.out).mono ?_
  rintro e w1 ⟨rfl, hw1⟩
  have H1 : Hid (Ex [E] w w1 ∧ Own w1 5 1 av all.length (encB all) ∧ Own w1 223 2 (.slice (some ⟨g, 0, none⟩) 1 wc) 1 [.int .i64 0, fv] ∧ Own w1 5 1 fv 64 (encB full) ∧ w1.heap[E]? = some (.cells #[av, .slice (some ⟨g, 0, none⟩) 1 wc, .int .i64 (dd + 1 : Nat), .int .i64 0, .bool false] 181 (0, 0))) := by rw [hw1]; exact HX1.out
  clear hw1
  have d1 : w1.cell? ⟨E, 1, none⟩ = some (.slice (some ⟨g, 0, none⟩) 1 wc) := by rw [cell_of_block H1.out.2.2.2.2]; rfl
  have g0 : w1.cell? ⟨g, 0, none⟩ = some (.int .i64 0) := by
    obtain ⟨b, o, hbo, hc⟩ := (rd_of_owns H1.out.2.2.1).at (by decide)
    cases hbo
    exact hc 0 _ rfl
  have g1 : w1.cell? ⟨g, 1, none⟩ = some fv := by
    obtain ⟨b, o, hbo, hc⟩ := (rd_of_owns H1.out.2.2.1).at (by decide)
    cases hbo
    exact hc 1 _ rfl
  go_wp2_with fail
  refine wp_loop_rounds 2 ?_
  rw [rounds_succ]
  go_wp2_with fail
  refine (rKeep_ex w1 E av _ _ _ _ fv all full HL.out HFL.out H1.out.2.2.2.2 H1.out.2.1 H1.out.2.2.2.1).mono ?_
  rintro e w2 ⟨rfl, ho2, hx2⟩
  have hne := owns_ne H1.out.2.1 H1.out.2.2.2.2 (by decide)
  have hb2 := hx2.obj H1.out.2.2.2.2 (fun hm => hne (by simp [bk] at hm; exact hm.symm))
  have d2 : w2.cell? ⟨E, 1, none⟩ = some (.slice (some ⟨g, 0, none⟩) 1 wc) := by rw [cell_of_block hb2]; rfl
  have f2 : w2.frozen? ⟨E, 1, none⟩ = false := free_of_block hb2
  have H2 := Lib.hid (And.intro ho2 (And.intro hx2 hb2))
  clear ho2 hx2 hb2 hne d1 g0 g1
  go_wp2_with fail
  rw [rounds_succ]
  go_wp2_with fail
  go_ret
  obtain ⟨ho2, hx2, hb2⟩ := H2.out
  have hl2 : (full ++ all.drop 64).length = all.length := by rw [List.length_append, List.length_drop, HFL.out, HL.out]
  have hx3 : Ex [E] w2 (w2.setCell ⟨E, 1, none⟩ (.slice none 0 0)) := (Ex.refl [E] w2).setCell (.inl (by simp)) _
  refine ⟨rfl, E :: bk av, ⟨av, rfl, block_setCell (j := 1) hb2, ?_⟩, ?_, ?_⟩
  · rw [hl2]
    exact own_ex ho2 hx3 (fun k hk hm => by simp at hm; subst hm; simp [bk] at hk; exact owns_ne ho2 hb2 (by decide) hk.symm)
  · intro k hk
    rw [HF.out]
    simp only [List.mem_cons, List.mem_append] at hk ⊢
    rcases hk with rfl | hk
    · exact .inl (.inl rfl)
    · exact .inl (.inr (.inl hk))
  · rw [HF.out]
    refine ((H1.out.1.weaken (F' := E :: (bk av ++ g :: bk fv)) (fun k hk => by simp at hk; simp [hk])).trans hx2 (fun k hk => .inl (by simp [hk]))).trans hx3 (fun k hk => .inl (by simp at hk; simp [hk]))
end Go.Proofs.YtckmpdplmpgniaaGreat
/- Contracts of the document's answer of layers 4, 5 at the chapter's example: Read, Format. No condition but ranges. -/
namespace Go.Proofs.YtckmpdplmpgniaaGreat
open Go Go.RowKit

set_option maxHeartbeats 1000000 in
theorem rSects_cell (w : World) (E : Nat) (a : Option Addr) (cap : Nat) (c0 : w.cell? ⟨E, 0, none⟩ = some (.slice a 384 cap)) :
    Calls Tryz.prog 99 #[.pointer (some ⟨E, 0, none⟩)] w fun x w' => x = .returned (.int .i64 6) ∧ w = w' := by
  go_enter Tryz.func99, Tryz.ntmps99
  go_wp2
  go_ret
  exact ⟨rfl, rfl⟩

set_option maxRecDepth 100000 in
set_option maxHeartbeats 4000000 in
theorem rRead_ex (w : World) (E dd : Nat) (F : List Nat) (all : List UInt8) (hl : all.length = 384) (h : RD0 w E F all dd) :
    Calls Tryz.prog 124 #[.pointer (some ⟨E, 0, none⟩), .int .i64 0] w fun x w' => ∃ a cap, x = .returned (.tuple #[.slice a 64 cap, .int .i64 0]) ∧ Own w' 5 1 (.slice a 64 cap) 64 (encB (all.take 64)) ∧ Ex [] w w' ∧ (∀ k ∈ bk (.slice a 64 cap), w.heap.size ≤ k) := by
  have HD := Lib.hid h
  have HL := Lib.hid hl
  obtain ⟨av, hF, hb, ho⟩ := h
  rw [hl] at ho
  obtain ⟨_, a0, ac, rfl, hac, _⟩ := rd_of_owns ho
  obtain ⟨ab, rfl⟩ := own_some ho (by decide)
  have hrd : Rd w 1 (.slice (some ⟨ab, 0, none⟩) 64 ac) 64 (encB (all.take 64)) := by
    have := (rd_of_owns ho).front (m := 64) (by decide)
    rw [Nat.mul_one, encB_take] at this
    exact this
  have HR := Lib.hid hrd
  have c4 : w.cell? ⟨E, 4, none⟩ = some (.bool false) := by rw [cell_of_block hb]; rfl
  have c0 : w.cell? ⟨E, 0, none⟩ = some (.slice (some ⟨ab, 0, none⟩) 384 ac) := by rw [cell_of_block hb]; rfl
  have HB := Lib.hid hb
  have hE := lt_of_block hb
  have ew : IntKind.i64.wrap 0 = 0 := by kernel_rfl
  have hown := own_new w #[] 5 1 0 rfl (by decide)
  clear hF hb ho hl hrd
  go_enter Tryz.func124, Tryz.ntmps124
  go_wp2_with fail
  refine (rSects_ex w E dd F all HL.out HD.out).mono ?_
  rintro e w' ⟨rfl, rfl⟩
  go_wp2_with (at_builtin; refine wpList_app _ rfl _ _ 37 rfl Tryz.underlying37 info_u8 rfl (by decide) (.slice (some ⟨w.heap.size, 0, none⟩) 0 0) 0 [] rfl hown (.slice (some ⟨ab, 0, none⟩) 64 ac) 64 (encB (all.take 64)) rfl (HR.out.pure ((Ex.refl [] w).alloc _)) (encB_oneCell _) (by unfold maxLen; omega) (by omega) ?_; intro a' cap' w4 hown4 hgrow4 hsw4 hnl4; have hx4 : Ex [] w w4 := (((Ex.refl [] w).alloc _).grown hgrow4 (by simp [Value.ownBlock])); have hb4 := hx4.obj HB.out (by simp); have d1 : w4.cell? ⟨E, 1, none⟩ = some (.slice none 0 0) := (by rw [cell_of_block hb4]; rfl); have H4 := Lib.hid (And.intro hx4 (And.intro hown4 hsw4)); clear hx4 hown4 hgrow4 hsw4 hnl4 hb4)
  refine wp_loop_rounds 1 ?_
  rw [rounds_succ]
  go_wp2_with fail
  go_ret2
  obtain ⟨hx4, hown4, hsw4⟩ := H4.out
  simp only [Nat.zero_add, List.nil_append] at hown4
  refine ⟨a', cap', rfl, hown4, hx4, fun k hk => ?_⟩
  rcases hsw4 k hk with h | h
  · simp [bk, Value.ownBlock] at h
    omega
  · rw [h]; simp

/-- What the document's device keeps behind Format. -/
def exAll : List UInt8 := pad64 [0, 0, 0, 1] ++ (List.replicate 384 (0 : UInt8)).drop 64

set_option maxRecDepth 100000 in
set_option maxHeartbeats 2000000 in
theorem rTell_ex (w : World) (E : Nat) (F : List Nat) (h : RD0 w E F (List.replicate 384 0) 0) :
    Calls Tryz.prog 100 #[.pointer (some ⟨E, 0, none⟩), .agg #[.int .i64 0, .int .i64 0, .int .i64 0, .int .i64 1]] w fun x w' => x = .returned (.int .i64 0) ∧ ∃ F', RD0 w' E F' exAll 2 ∧ Sw w F F' ∧ Ex F w w' := by
  have HD := Lib.hid h
  clear h
  go_enter Tryz.func100, Tryz.ntmps100
  go_wp2_with fail
  refine (rSectorOf_ex _).mono ?_
  rintro e w1 ⟨a1, cap1, rfl, ho1, hx1, hk1⟩
  have hxx : Ex [] w w1 := ((Ex.refl [] w).alloc (.cells #[.int .i64 0, .int .i64 0, .int .i64 0, .int .i64 1] 184)).pure hx1
  have hoff : ∀ k ∈ bk (.slice a1 4 cap1), k ∉ F := fun k hk hm => by
    have := HD.out.lt k hm
    have := hk1 k hk
    simp at this
    omega
  have H1 := Lib.hid (And.intro hxx (And.intro (rd_of_owns ho1) hoff))
  clear hxx ho1 hx1 hk1 hoff
  go_wp2_with fail
  refine (rWrite_ex w1 E 0 F _ _ [0, 0, 0, 1] (by simp) (by decide) (HD.out.pure H1.out.1) H1.out.2.1 (by decide) H1.out.2.2).mono ?_
  rintro e w2 ⟨rfl, F2, hd2, hs2, hx2⟩
  have H2 := Lib.hid (And.intro hd2 (And.intro hs2 hx2))
  clear hd2 hs2 hx2
  go_wp2_with fail
  refine (rFlush_ex w2 E 1 F2 _ _ (by simp) (by decide) H2.out.1).mono ?_
  rintro e w3 ⟨rfl, F3, hd3, hs3, hx3⟩
  have H3 := Lib.hid (And.intro hd3 (And.intro hs3 hx3))
  clear hd3 hs3 hx3
  go_wp2_with fail
  go_ret
  obtain ⟨hd3, hs3, hx3⟩ := H3.out
  obtain ⟨hd2, hs2, hx2⟩ := H2.out
  have hs2' : Sw w F F2 := hs2.mono_size H1.out.1.size
  exact ⟨rfl, F3, hd3, hs2'.trans hs3 (Nat.le_trans H1.out.1.size hx2.size), (H1.out.1.of_nil.trans hx2 (Sw.refl _ _)).trans hx3 hs2'⟩

set_option maxRecDepth 100000 in
set_option maxHeartbeats 2000000 in
theorem rFormat_ex (w : World) (E : Nat) (F : List Nat) (h : RD0 w E F (List.replicate 384 0) 0) :
    Calls Tryz.prog 67 #[.pointer (some ⟨E, 0, none⟩), .agg exShape] w fun x w' => x = .returned (.int .i64 0) ∧ ∃ F', RD0 w' E F' exAll 2 ∧ Sw w F F' ∧ Ex F w w' := by
  have HD := Lib.hid h
  have hR := rRight_any
  have hS := rSectors_any
  unfold exShape at hR hS ⊢
  have HR := Lib.hid hR
  have HS := Lib.hid hS
  obtain ⟨av, _, hb, ho⟩ := h
  obtain ⟨_, a, ac, rfl, _⟩ := rd_of_owns ho
  have c0 : w.cell? ⟨E, 0, none⟩ = some (.slice a 384 ac) := by rw [cell_of_block hb]; simp
  have hE := lt_of_block hb
  clear hR hS hb ho
  go_enter Tryz.func67, Tryz.ntmps67
  go_wp2_with fail
  have hb0 := heap_alloc_new w (.cells #[.int .i64 2, .int .i64 1, .int .i64 1] 23)
  have q0 : (w.alloc (.cells #[.int .i64 2, .int .i64 1, .int .i64 1] 23)).cell? ⟨w.heap.size, 0, none⟩ = some (.int .i64 2) := (cell_of_block hb0).trans rfl
  have q1 : (w.alloc (.cells #[.int .i64 2, .int .i64 1, .int .i64 1] 23)).cell? ⟨w.heap.size, 1, none⟩ = some (.int .i64 1) := (cell_of_block hb0).trans rfl
  have q2 : (w.alloc (.cells #[.int .i64 2, .int .i64 1, .int .i64 1] 23)).cell? ⟨w.heap.size, 2, none⟩ = some (.int .i64 1) := (cell_of_block hb0).trans rfl
  have qE : (w.alloc (.cells #[.int .i64 2, .int .i64 1, .int .i64 1] 23)).cell? ⟨E, 0, none⟩ = some (.slice a 384 ac) := ((Ex.refl [] w).alloc _).cell (by simp) c0
  have hx1 : Ex [] w (w.alloc (.cells #[.int .i64 2, .int .i64 1, .int .i64 1] 23)) := (Ex.refl [] w).alloc _
  have HX1 := Lib.hid hx1
  clear hb0 c0 hx1
  generalize w.alloc (.cells #[.int .i64 2, .int .i64 1, .int .i64 1] 23) = w1 at *
  go_region_held3 (fun w' => w'.cell? ⟨w.heap.size, 0, none⟩ = some (.int .i64 2) ∧ w'.cell? ⟨w.heap.size, 1, none⟩ = some (.int .i64 1) ∧ w'.cell? ⟨w.heap.size, 2, none⟩ = some (.int .i64 1) ∧ w'.cell? ⟨E, 0, none⟩ = some (.slice a 384 ac)) (first | (go_keep; done) | (refine ⟨?_, ?_, ?_, ?_⟩ <;> exact ((((Ex.refl [] w1).alloc _).alloc _).alloc _).drew.cell (by simp) (by assumption)))
    (first | (go_at_call 70; with_reducible refine (HR.out _).mono ?_; rintro x w' ⟨rfl, rfl⟩) | (go_at_call 99; with_reducible refine (rSects_cell _ E a ac (by go_split_ands; assumption)).mono ?_; rintro x w' ⟨rfl, rfl⟩) | (go_at_call 34; with_reducible refine (HS.out _).mono ?_; rintro x w' ⟨rfl, rfl⟩))
  have HX2 := Lib.hid (HX1.out.pure ((((Ex.refl [] w1).alloc (.cells #[.int .i64 2, .int .i64 1, .int .i64 1] 23)).alloc (.cells #[.int .i64 2, .int .i64 1, .int .i64 1] 23)).alloc (.cells #[.int .i64 2, .int .i64 1, .int .i64 1] 23)).drew)
  clear q0 q1 q2 qE
  go_wp2_with fail
  refine (rTell_ex _ E F (HD.out.pure HX2.out)).mono ?_
  rintro x w3 ⟨rfl, F3, hd3, hs3, hx3⟩
  have H3 := Lib.hid (And.intro hd3 (And.intro (hs3.mono_size HX2.out.size) (HX2.out.of_nil.trans hx3 (Sw.refl _ _))))
  clear hd3 hs3 hx3
  go_wp2_with fail
  go_ret
  exact ⟨rfl, F3, H3.out⟩
end Go.Proofs.YtckmpdplmpgniaaGreat
