/- Contracts of package dev: Write. No condition but sizes. -/
import Derived.Test.YtckmpdplmpgniaaGreatDevC
import Derived.Laws.IdiomCopy
import Derived.Deep.AppendLies
namespace Go.Proofs.YtckmpdplmpgniaaGreat
open Go Go.RowKit

theorem run_copy_any {P : Program} (w : World) (dT sT ty elem : TypeId) (b o dLen dCap : Nat) (hu : P.underlying dT = some (.slice elem)) (hs : (P.info? elem).map (·.size) = some 1)
    {y : Value} {n : Nat} {cs : List Value} (hy : Rd w 1 y n cs) (h1 : ∀ u ∈ cs, u.oneCell' = true) (hn : n ≤ dLen) (ht : w.there b o n) :
    (Builtin.copy_ #[dT, sT] ty #[.slice (some ⟨b, o, none⟩) dLen dCap, y]).run P w = .ok (goInt n) (w.setCells b o cs) := by
  obtain ⟨hl, a, cap, rfl, hc1, hc2, hc3, hc4⟩ := hy
  rw [Nat.mul_one] at hl
  rcases Nat.eq_zero_or_pos n with rfl | hpos
  · obtain rfl : cs = [] := List.eq_nil_of_length_eq_zero hl
    exact run_copy_none (P := P) w dT sT ty elem _ a dLen dCap 0 cap hu hs (Nat.zero_min _)
  · obtain ⟨ab, ao, rfl, hc⟩ := hc4 hpos
    have := run_copy_cells (P := P) w dT sT ty elem b o dLen dCap ⟨ab, ao, none⟩ n cap cs hu hs (by rw [hl]; exact (Nat.min_eq_left hn).symm) (fun j v hj => by rw [Addr.add_lit]; exact hc j v hj) (fun j hj => (ht j (by omega)).1) (fun j hj => (ht j (by omega)).2) h1
    rw [hl] at this
    exact this

theorem wpList_cop {P : Program} (w : World) {ops : Array Oper} {rest : List Oper} {o : Oper} {a : Act} {Q : Exit → Act → World → Prop} (hgd : o.guard = none) (s x : Operand) (t t' : TypeId)
    (ho : o.op = .call { callee := .builtin .copy, args := #[s, x], argTypes := #[t, t'] }) {e : TypeId} (ht : P.underlying t = some (.slice e)) (hinfo : (P.info? e).map (·.size) = some 1)
    (b o' dLen dCap : Nat) (hs : a.eval s = .slice (some ⟨b, o', none⟩) dLen dCap) (y : Value) (n : Nat) (cs : List Value) (hx : a.eval x = y) (hy : Rd w 1 y n cs) (h1 : ∀ u ∈ cs, u.oneCell' = true) (hn : n ≤ dLen) (hth : w.there b o' n)
    (h : wpList P ops Q rest (a.put o.dst (goInt n)) (w.setCells b o' cs)) : wpList P ops Q (o :: rest) a w := by
  refine wpList_plain hgd fun K hK => ?_
  have hr := run_copy_any (P := P) w t t' o.type e b o' dLen dCap ht hinfo hy h1 hn hth
  unfold Oper.wp execOp
  simp only [ho, resolve, invoke, builtin, Sem.run_bind, Sem.run_pure, Result.andThen_ok, List.map_toArray, List.map_cons, List.map_nil, hs, hx, hr]
  exact hK _ _ h

/-- Rows of different kinds lie apart. -/
theorem own_apart {w : World} {e e' : TypeId} {s s' n n' : Nat} {v v' : Value} {xs xs' : List Value} (h : Own w e s v n xs) (h' : Own w e' s' v' n' xs') (hne : e ≠ e') : ∀ k ∈ bk v, k ∉ bk v' := by
  intro k hk hk'
  rcases h'.2 with ⟨rfl, _⟩ | ⟨g, cap, cur, rfl, _, hg, _⟩
  · simp [bk, Value.ownBlock] at hk'
  · simp [bk, Value.ownBlock] at hk'
    subst hk'
    have := owns_ne h hg (Ne.symm hne)
    simp [bk] at hk
    exact this hk.symm

/-- A new pending write's cells, and behind its copy. -/
def shot0 (at_ : Nat) : Array Value := (encShot (at_, List.replicate 64 0)).toArray

theorem over_shot (at_ : Nat) (b : List UInt8) (hb : b.length ≤ 64) : over (encShot (at_, List.replicate 64 0)) 1 (encB b) = encShot (at_, pad64 b) := by
  apply List.ext_getElem?
  intro i
  rw [over_get _ _ _ (by rw [encShot_length _ (by simp), encB_length]; omega)]
  cases i with
  | zero => simp [encShot]
  | succ i =>
    by_cases h : 1 ≤ i + 1 ∧ i + 1 < 1 + (encB b).length
    · rw [if_pos h]
      rw [encB_length] at h
      simp only [encShot, pad64, Nat.add_sub_cancel, List.getElem?_cons_succ, encB_append]
      rw [List.getElem?_append_left (by rw [encB_length]; omega)]
    · rw [if_neg h]
      rw [encB_length] at h
      simp only [encShot, pad64, List.getElem?_cons_succ, encB_append]
      rw [List.getElem?_append_right (by rw [encB_length]; omega), encB_get, encB_get]
      rw [encB_length, List.getElem?_replicate, List.getElem?_replicate]
      by_cases h2 : i < 64
      · rw [if_pos h2, if_pos (by omega)]
      · rw [if_neg h2, if_neg (by omega)]

theorem shot_cells (at_ : Nat) : (Tryz.zeroCells154.toList.set 0 (.int .i64 at_)) = encShot (at_, List.replicate 64 0) := by rfl
theorem shot_one (at_ : Nat) : (Tryz.zeroCells154.setIfInBounds 0 (.int .i64 at_)).all (fun x => x.oneCell') = true := by
  rw [Array.all_eq_true']
  intro v hv
  rw [← Array.mem_toList_iff, Array.toList_setIfInBounds, shot_cells] at hv
  exact encShot_one _ v hv

/-- The worlds of a new pending write: laid; told its place; and its bytes. -/
theorem shot_own (w : World) (at_ : Nat) : Own ((w.alloc (.cells Tryz.zeroCells154 154)).setCells w.heap.size 0 (Tryz.zeroCells154.toList.set 0 (.int .i64 at_))) 154 65 (.slice (some ⟨w.heap.size, 0, none⟩) 1 1) 1 (encShot (at_, List.replicate 64 0)) ∧ Ex [] w ((w.alloc (.cells Tryz.zeroCells154 154)).setCells w.heap.size 0 (Tryz.zeroCells154.toList.set 0 (.int .i64 at_))) := by
  have h1 := own_new w Tryz.zeroCells154 154 65 1 (by simp) (by decide)
  rw [shot_cells]
  obtain ⟨s1, s2⟩ := own_setCells (encShot (at_, List.replicate 64 0)) 0 h1
  rw [over_all _ _ (by rw [encShot_length _ (by simp)]; simp)] at s1
  exact ⟨s1, ((Ex.refl [] w).alloc _).off s2 (by simp)⟩
theorem shot_mid (w : World) (at_ : Nat) : Ex [] w ((w.alloc (.cells Tryz.zeroCells154 154)).setCells w.heap.size 0 (Tryz.zeroCells154.toList.set 0 (.int .i64 at_))) := (shot_own w at_).2
theorem shot_there (w : World) (at_ n : Nat) (h : n ≤ 64) : ((w.alloc (.cells Tryz.zeroCells154 154)).setCells w.heap.size 0 (Tryz.zeroCells154.toList.set 0 (.int .i64 at_))).there w.heap.size 1 n := own_there (shot_own w at_).1 1 n (by omega)
theorem shot_laid (w : World) (at_ : Nat) (b : List UInt8) (hb : b.length ≤ 64) :
    Ex [] w ((((w.alloc (.cells Tryz.zeroCells154 154)).setCells w.heap.size 0 (Tryz.zeroCells154.toList.set 0 (.int .i64 at_)))).setCells w.heap.size 1 (encB b)) ∧
    Own ((((w.alloc (.cells Tryz.zeroCells154 154)).setCells w.heap.size 0 (Tryz.zeroCells154.toList.set 0 (.int .i64 at_)))).setCells w.heap.size 1 (encB b)) 154 65 (.slice (some ⟨w.heap.size, 0, none⟩) 1 1) 1 (encShot (at_, pad64 b)) ∧
    w.heap.size < ((((w.alloc (.cells Tryz.zeroCells154 154)).setCells w.heap.size 0 (Tryz.zeroCells154.toList.set 0 (.int .i64 at_)))).setCells w.heap.size 1 (encB b)).heap.size := by
  obtain ⟨h1, h2⟩ := shot_own w at_
  obtain ⟨s1, s2⟩ := own_setCells (encB b) 1 h1
  rw [over_shot _ _ hb] at s1
  exact ⟨h2.off s2 (by simp), s1, own_lt s1 _ (by simp [bk, Value.ownBlock])⟩

theorem rangeAt_setCell {W : World} {b o : Nat} {cs : List Value} {p : Addr} (h : W.rangeAt b o cs) (hne : p.block ≠ b) (v : Value) : (W.setCell p v).rangeAt b o cs := fun j u hj => by
  rw [World.cell?_setCell_far _ _ _ _ hne]
  exact h j u hj

theorem fold_over (A : Array Value) (cs : List Value) (k : Nat) : (List.foldl (fun (B : Array Value) (x : Value × Nat) => B.setIfInBounds x.snd x.fst) A (cs.zipIdx k)).toList = over A.toList k cs := by
  induction cs generalizing A k with
  | nil => rfl
  | cons c cs ih => rw [List.zipIdx_cons, List.foldl_cons, ih, over, Array.toList_setIfInBounds]
theorem fold_all (A : Array Value) (cs : List Value) (h : cs.length = A.size) : List.foldl (fun (B : Array Value) (x : Value × Nat) => B.setIfInBounds x.snd x.fst) A cs.zipIdx = cs.toArray := by
  have := fold_over A cs 0
  rw [over_all _ _ (by simpa using h)] at this
  have h2 := congrArg List.toArray this
  simpa using h2

theorem lt_of_block_cell {w : World} {p : Addr} {v : Value} (h : w.cell? p = some v) : p.block < w.heap.size := World.block_lt_of_cell? w p h
theorem frozen_of_block {w w' : World} {p : Addr} (h : w'.heap[p.block]? = w.heap[p.block]?) : w'.frozen? p = w.frozen? p := by simp only [World.frozen?, h]

/-- What lies behind a write. -/
theorem write_end {w1 W w2 : World} {D : Nat} {F : List Nat} {d : Dv} {at_ : Nat} {b : List UInt8} {pa : Option Addr} {pc gg cap : Nat} {cs : Array Value}
    (h : DevAt w1 D F d) (hb : b.length = 64) (hat : at_ < d.kept.length) (hx : Ex [] w1 W) (_hp : Own W 154 65 (.slice pa d.pend.length pc) d.pend.length (d.pend.flatMap encShot))
    (hgrow : ((W.alloc (.cells cs 154)).drew).grownBy w2 (Value.slice pa d.pend.length pc).ownBlock)
    (hown : Own w2 154 65 (.slice (some ⟨gg, 0, none⟩) (d.pend.length + 1) cap) (d.pend.length + 1) (d.pend.flatMap encShot ++ encShot (at_, b)))
    (hat2 : (Value.slice pa d.pend.length pc).ownBlock = some gg ∨ gg = W.heap.size + 1) (hc : W.cell? ⟨D, 4, none⟩ = some (.slice pa d.pend.length pc)) :
    DevTo w1 D F { d with pend := d.pend ++ [(at_, b)] } (w2.setCell ⟨D, 4, none⟩ (.slice (some ⟨gg, 0, none⟩) (d.pend.length + 1) cap)) := by
  have hW := h.pure hx
  have hlt := h.lt
  obtain ⟨h0, dd, kv, pv, rfl, hbl, hk, hpn⟩ := hW
  have hc' := hc
  rw [cell_of_block hbl] at hc
  obtain rfl : pv = .slice pa d.pend.length pc := by simpa using hc
  have hD2 : w2.heap[D]? = some (.cells #[.int .i64 dd, .int .i64 d.fuse, .bool d.down, kv, .slice pa d.pend.length pc] 80 (0, 0)) :=
    block_grown (w := (W.alloc (.cells cs 154)).drew) (block_alloc hbl) hgrow (owns_ne hpn hbl (by decide))
  have hxa : Ex ((Value.slice pa d.pend.length pc).ownBlock.toList) W w2 := ((((Ex.refl _ W).alloc _).drew).grown hgrow (fun k hk => .inl (by simp [hk])))
  have hst := store_row (j := 4) hD2 hown (by decide)
  refine ⟨D :: (bk kv ++ bk (.slice (some ⟨gg, 0, none⟩) (d.pend.length + 1) cap)), ⟨⟨h0.1, h0.2.1, h0.2.2.1, ?_, h0.2.2.2.2⟩, dd, kv, _, rfl, hst.1, ?_, ?_⟩, ?_, ?_⟩
  · intro p hp'
    rcases List.mem_append.1 hp' with hp' | hp'
    · exact h0.2.2.2.1 p hp'
    · simp at hp'; subst hp'; exact ⟨hat, hb⟩
  · refine ownsRow_setCell_other (own_ex hk hxa ?_) (Ne.symm (owns_ne hk hbl (by decide))) _
    intro k hk1 hk2
    exact own_apart hk hpn (by decide) k hk1 hk2
  · have := hst.2
    simpa using this
  · intro k hk1
    simp only [List.mem_cons, List.mem_append] at hk1 ⊢
    rcases hk1 with rfl | hk1 | hk1
    · exact .inl (.inl rfl)
    · exact .inl (.inr (.inl hk1))
    · simp [bk, Value.ownBlock] at hk1
      subst hk1
      rcases hat2 with h2 | h2
      · exact .inl (.inr (.inr (by simp [bk, h2])))
      · right; have := hx.size; omega
  · refine (hx.of_nil.trans (hxa.weaken (F' := D :: (bk kv ++ bk (.slice pa d.pend.length pc))) ?_) (Sw.refl _ _)).setCell (.inl (by simp)) _
    intro k hk1
    simp [bk] at hk1 ⊢
    exact .inr (.inr hk1)

theorem info_u8' : (Tryz.prog.info? 5).map (·.size) = some 1 := by kernel_rfl
theorem info_shot : (Tryz.prog.info? 154).map (fun i => (i.zero, i.size, i.bytes)) = some (some (.agg (shot0 0)), 65, 72) := by kernel_rfl

set_option linter.unusedSimpArgs false in
set_option maxRecDepth 100000 in
set_option maxHeartbeats 4000000 in
theorem Write_good (w : World) (D : Nat) (F : List Nat) (d : Dv) (at_ : Nat) (v : Value) (b : List UInt8) (hp : d.pend.length ≤ 1000000) (h : DevAt w D F d)
    (hd : d.down = false) (hf1 : d.fuse ≠ 1) (hat : at_ < d.kept.length) (hv : RdB w v b) (hl : b.length ≤ 64) (hoff : Off w v F) :
    Calls Tryz.prog 72 #[.pointer (some ⟨D, 0, none⟩), .int .i64 at_, v] w fun x w' => x = .returned (.int .i64 0) ∧ DevTo w D F { d with fuse := d.fuse - 1, pend := d.pend ++ [(at_, pad64 b)] } w' := by
  have HD := Lib.hid h
  have HV := Lib.hid hv
  have HO := Lib.hid hoff
  have HA : Hid (d.able = 0 ∧ d.next = (0, { d with fuse := d.fuse - 1 }) ∧ d.has at_ = true) := ⟨by unfold Dv.able; rw [hd]; rfl, by unfold Dv.next; rw [if_neg hf1], by unfold Dv.has; simp; omega⟩
  have hk8 := h.1.2.1
  obtain ⟨a, cap, rfl, hcap⟩ := hv.2
  clear hd hf1 hv hcap hoff
  go_enter Tryz.func72, Tryz.ntmps72
  go_wp2_with fail
  refine (able_any w D F d HD.out).mono ?_
  rintro x w' ⟨rfl, rfl⟩
  rw [HA.out.1]
  go_wp2_with fail
  refine (has_any w D F d at_ (by omega) (by omega) HD.out).mono ?_
  rintro x w' ⟨rfl, rfl⟩
  rw [HA.out.2.2]
  go_wp2_with fail
  refine (next_any w D F d HD.out).mono ?_
  rintro x w1 ⟨rfl, F1, hd1, hs1, hx1⟩
  rw [HA.out.2.1] at hd1 ⊢
  have hv1 := HV.out.ex hx1 HO.out
  have H1 := Lib.hid (And.intro hd1 (And.intro hs1 (And.intro hx1 hv1)))
  clear hd1 hs1 hx1 hv1
  have hkeep := H1.out
  obtain ⟨hd1, hs1, hx1, hv1⟩ := hkeep
  obtain ⟨dd, kb, kc, pa, pc, c0, c1, c2, c3, c4, hf⟩ := hd1.cells
  have f4 := hf 4
  have hown : ∃ pv, pv = Value.slice pa d.pend.length pc ∧ Own w1 154 65 pv d.pend.length (d.pend.flatMap encShot) := by
    obtain ⟨h0, dd', kv, pv, hF, hb, hk, hpn⟩ := hd1
    rw [cell_of_block hb] at c4
    exact ⟨pv, by simpa using c4, hpn⟩
  obtain ⟨_, rfl, hpn⟩ := hown
  obtain ⟨x1, x2, x3⟩ := shot_laid w1 at_ b hl
  have HX := Lib.hid (And.intro x1 (And.intro x2 x3))
  have HPN := Lib.hid hpn
  have hv2 : ∀ W, Ex [] w1 W → Rd W 1 (.slice a b.length cap) b.length (encB b) := fun W hW => hv1.pure hW
  have HV2 := Lib.hid hv2
  have ne4 := World.new_ne w1 _ c4
  have C4 := Lib.hid c4
  have F4 := Lib.hid f4
  clear hd1 hs1 hx1 hv1 hf c0 c1 c2 c3 hpn x1 x2 x3 hv2 c4 f4 ne4
  have xi : (Tryz.prog.info? 154).map (·.size) = some (Tryz.zeroCells154.setIfInBounds 0 (.int .i64 at_)).size := by rw [size_shot]; simp
  have XI := Lib.hid xi
  clear xi
  have hcopy := run_copy_any (P := Tryz.prog) _ 37 37 3 5 w1.heap.size 1 64 64 Tryz.underlying37 info_u8' (HV2.out _ (shot_mid w1 at_)) (encB_oneCell b) hl (shot_there w1 at_ _ hl)
  go_wp2_with (with_reducible refine wpList_store_mid rfl 154 _ _ rfl w1.heap.size 0 (Tryz.zeroCells154.setIfInBounds 0 (.int .i64 at_)) rfl rfl (own_there (own_new w1 Tryz.zeroCells154 154 65 1 (by simp) (by decide)) 0 _ (by simp)) (by simpa using XI.out) (shot_one at_) ?_)
  have e1 := HX.out.1
  have e2 := HX.out.2.1
  have e3 := HX.out.2.2
  have c4 := e1.cell (by simp) C4.out
  have f4 : ((((w1.alloc (.cells Tryz.zeroCells154 154)).setCells w1.heap.size 0 (Tryz.zeroCells154.toList.set 0 (.int .i64 at_)))).setCells w1.heap.size 1 (encB b)).frozen? ⟨D, 4, none⟩ = false := by
    obtain ⟨_, _, _, _, _, _, _, _, _, _, hfz⟩ := (H1.out.1.pure e1).cells
    exact hfz 4
  have hpn := own_pure HPN.out e1
  generalize hW : ((w1.alloc (.cells Tryz.zeroCells154 154)).setCells w1.heap.size 0 (Tryz.zeroCells154.toList.set 0 (.int .i64 at_))).setCells w1.heap.size 1 (encB b) = W at *
  obtain ⟨i0, hi0, hz0, hz1, hz2⟩ := info_parts info_shot
  have hr : W.rangeAt w1.heap.size 0 (encShot (at_, pad64 b)) := own_range e2 0 _ fun j u hj => by simpa using hj
  have hl65 : (encShot (at_, pad64 b)).length = 65 := encShot_length _ (pad64_length b hl)
  have xu := Tryz.underlying154
  have xi2 : (Tryz.prog.info? 154).map (·.size) = some (encShot (at_, pad64 b)).length := by rw [size_shot, hl65]
  have xo := encShot_one (at_, pad64 b)
  have ne4 := World.new_ne W _ c4
  have HP := Lib.hid hpn
  clear hpn e1 e2
  generalize hcs : encShot (at_, pad64 b) = cs at *
  have c4a : ∀ o, (W.alloc o).cell? ⟨D, 4, none⟩ = some (.slice pa d.pend.length pc) := fun o => ((Ex.refl [] W).alloc o).cell (by simp) c4
  have hne9 : D ≠ w1.heap.size := by
    have := HX.out.2.1
    rintro rfl
    have h0 := H1.out.1.lt _ H1.out.1.mem
    omega
  refine wp_region_held_drew (S := fun w' => w'.rangeAt w1.heap.size 0 cs) (by kernel_rfl) (by simpa using hr) (fun hHeld => ?_)
  refine wpAnyH_take (i := 0) (v := .pointer (some ⟨D, 0, none⟩)) rfl (by kernel_rfl) (by kernel_rfl) (by kernel_rfl) (fun _ _ _ h => h) (Or.inl ⟨by rfl, by intro w hSw; go_simp⟩) hHeld ?_
  try simp only [Act.put, List.setIfInBounds_toArray, List.set_cons_zero, List.set_cons_succ]
  refine wpAnyH_take (i := 1) (v := .pointer (some ⟨D, 0, none⟩)) rfl (by kernel_rfl) (by kernel_rfl) (by kernel_rfl) (fun _ _ _ h => h) (Or.inl ⟨by rfl, by intro w hSw; go_simp⟩) hHeld ?_
  try simp only [Act.put, List.setIfInBounds_toArray, List.set_cons_zero, List.set_cons_succ]
  refine wpAnyH_take (i := 2) (v := .pointer (some ⟨D, 0, none⟩)) rfl (by kernel_rfl) (by kernel_rfl) (by kernel_rfl) (fun _ _ _ h => h) (Or.inl ⟨by rfl, by intro w hSw; go_simp⟩) hHeld ?_
  try simp only [Act.put, List.setIfInBounds_toArray, List.set_cons_zero, List.set_cons_succ]
  refine wpAnyH_take (i := 3) (v := .pointer (some ⟨D, 4, none⟩)) rfl (by kernel_rfl) (by kernel_rfl) (by kernel_rfl) (fun _ _ _ h => h) (Or.inl ⟨by rfl, by intro w hSw; go_simp⟩) hHeld ?_
  try simp only [Act.put, List.setIfInBounds_toArray, List.set_cons_zero, List.set_cons_succ]
  refine wpAnyH_take (i := 5) (v := .agg cs.toArray) rfl (by kernel_rfl) (by kernel_rfl) (by kernel_rfl) (fun _ _ _ h => h) (yieldsIf_load_mid (by rfl) _ _ rfl _ _ rfl _ _ (fun _ h => h) xu rfl xi2) hHeld ?_
  try simp only [Act.put, List.setIfInBounds_toArray, List.set_cons_zero, List.set_cons_succ]
  refine wpAnyH_ready (rs := [4, 6]) (by kernel_rfl) (by simp) ?_
  refine AllReadyH.cons (o := _) rfl (fun K hK => ?_) (AllReadyH.cons (o := _) rfl (fun K hK => ?_) AllReadyH.nil)
  · go_simp
    refine hK.out _ _ (by simpa using hr) (fun _ => ?_)
    try simp only [Act.put, List.setIfInBounds_toArray, List.set_cons_zero, List.set_cons_succ]
    clear hK K
    refine wpAnyH_ready (rs := [6]) (by kernel_rfl) (by simp) ?_
    refine AllReadyH.cons (o := _) rfl (fun K hK => ?_) AllReadyH.nil
    go_simp
    rw [fold_all _ cs (by simpa using hl65)]
    refine hK.out _ _ (by first | (simpa using World.rangeAt_alloc hr (.cells cs.toArray 154)) | exact World.rangeAt_alloc hr (.cells cs.toArray 154)) (fun _ => ?_)
    try simp only [Act.put, List.setIfInBounds_toArray, List.set_cons_zero, List.set_cons_succ]
    clear hK K
    refine wpAnyH_ready (rs := [7]) (by kernel_rfl) (by simp) ?_
    refine AllReadyH.cons (o := _) rfl (fun K hK => ?_) AllReadyH.nil
    refine step_append_lies _ (by rfl) _ _ _ (by rfl) 0 154 i0 _ 65 72 Tryz.underlying78 hi0 hz0 hz1 hz2 rfl (by omega) (.slice pa d.pend.length pc) d.pend.length (d.pend.flatMap encShot) (by rfl) ((HP.out.alloc _).drew) ⟨W.heap.size, 0, none⟩ 1 1 cs (by rfl) (by omega) (World.news_of_block (cs := cs.toArray) (t := 154) (fr := (0, 0)) (heap_alloc_new _ _)) xo (by omega) (by unfold maxLen; omega) (by omega) (by simp) (W.heap.size + 1) (by simp) ?_
    intro gg cap1 w2 hown1 hgrow hat2 hlt
    have hDp : some D ≠ (Value.slice pa d.pend.length pc).ownBlock := by
      obtain ⟨h0, dd', kv, pv, hF, hb, hk, hpn⟩ := H1.out.1.pure HX.out.1
      exact owns_ne HP.out hb (by decide)
    have c4b : (W.alloc (.cells cs.toArray 154)).drew.cell? ⟨D, 4, none⟩ = some (.slice pa d.pend.length pc) := (((Ex.refl [] W).alloc _).drew).cell (by simp) c4
    have hD2 : w2.heap[D]? = W.heap[D]? := (hgrow.block D (lt_of_block_cell c4b) hDp).trans (Below.heap_alloc _ _ _ (lt_of_block_cell c4))
    have c42 : w2.cell? ⟨D, 4, none⟩ = some (.slice pa d.pend.length pc) := (World.cell?_of_block hD2).trans c4
    have f42 : w2.frozen? ⟨D, 4, none⟩ = false := (frozen_of_block hD2).trans f4
    have hr2 : w2.rangeAt w1.heap.size 0 cs := by
      have hb2 : w2.heap[w1.heap.size]? = W.heap[w1.heap.size]? := by
        refine (hgrow.block _ (by simp; omega) ?_).trans (Below.heap_alloc _ _ _ e3)
        intro he
        have := own_lt HPN.out w1.heap.size (by simp [bk, ← he])
        omega
      intro j u hj
      exact (World.cell?_of_block hb2).trans (hr j u hj)
    refine hK.out _ _ hr2 (fun _ => ?_)
    try simp only [Act.put, List.setIfInBounds_toArray, List.set_cons_zero, List.set_cons_succ]
    clear hK K
    refine wpAnyH_take (i := 8) (v := .pointer (some ⟨D, 0, none⟩)) rfl (by kernel_rfl) (by kernel_rfl) (by kernel_rfl) (fun _ _ _ h => h) (Or.inl ⟨by rfl, by intro w hSw; go_simp⟩) hr2 ?_
    try simp only [Act.put, List.setIfInBounds_toArray, List.set_cons_zero, List.set_cons_succ]
    refine wpAnyH_take (i := 9) (v := .pointer (some ⟨D, 4, none⟩)) rfl (by kernel_rfl) (by kernel_rfl) (by kernel_rfl) (fun _ _ _ h => h) (Or.inl ⟨by rfl, by intro w hSw; go_simp⟩) hr2 ?_
    try simp only [Act.put, List.setIfInBounds_toArray, List.set_cons_zero, List.set_cons_succ]
    refine wpAnyH_ready (rs := [10]) (by kernel_rfl) (by simp) ?_
    refine AllReadyH.cons (o := _) rfl (fun K hK => ?_) AllReadyH.nil
    go_simp
    refine hK.out _ _ (rangeAt_setCell hr2 (by simpa using hne9) _) (fun _ => ?_)
    clear hK K
    refine wpAnyH_done (by kernel_rfl) ?_ _
    go_wp2_with fail
    go_ret
    refine ⟨rfl, ?_⟩
    exact DevTo.trans H1.out.2.1 H1.out.2.2.1 (write_end H1.out.1 (pad64_length b hl) hat HX.out.1 HP.out hgrow (hcs ▸ hown1) hat2 c4)
  · go_simp
    rw [fold_all _ cs (by simpa using hl65)]
    refine hK.out _ _ (by first | (simpa using World.rangeAt_alloc hr (.cells cs.toArray 154)) | exact World.rangeAt_alloc hr (.cells cs.toArray 154)) (fun _ => ?_)
    try simp only [Act.put, List.setIfInBounds_toArray, List.set_cons_zero, List.set_cons_succ]
    clear hK K
    refine wpAnyH_ready (rs := [4]) (by kernel_rfl) (by simp) ?_
    refine AllReadyH.cons (o := _) rfl (fun K hK => ?_) AllReadyH.nil
    go_simp
    refine hK.out _ _ (by first | (simpa using World.rangeAt_alloc hr (.cells cs.toArray 154)) | exact World.rangeAt_alloc hr (.cells cs.toArray 154)) (fun _ => ?_)
    try simp only [Act.put, List.setIfInBounds_toArray, List.set_cons_zero, List.set_cons_succ]
    clear hK K
    refine wpAnyH_ready (rs := [7]) (by kernel_rfl) (by simp) ?_
    refine AllReadyH.cons (o := _) rfl (fun K hK => ?_) AllReadyH.nil
    refine step_append_lies _ (by rfl) _ _ _ (by rfl) 0 154 i0 _ 65 72 Tryz.underlying78 hi0 hz0 hz1 hz2 rfl (by omega) (.slice pa d.pend.length pc) d.pend.length (d.pend.flatMap encShot) (by rfl) ((HP.out.alloc _).drew) ⟨W.heap.size, 0, none⟩ 1 1 cs (by rfl) (by omega) (World.news_of_block (cs := cs.toArray) (t := 154) (fr := (0, 0)) (heap_alloc_new _ _)) xo (by omega) (by unfold maxLen; omega) (by omega) (by simp) (W.heap.size + 1) (by simp) ?_
    intro gg cap1 w2 hown1 hgrow hat2 hlt
    have hDp : some D ≠ (Value.slice pa d.pend.length pc).ownBlock := by
      obtain ⟨h0, dd', kv, pv, hF, hb, hk, hpn⟩ := H1.out.1.pure HX.out.1
      exact owns_ne HP.out hb (by decide)
    have c4b : (W.alloc (.cells cs.toArray 154)).drew.cell? ⟨D, 4, none⟩ = some (.slice pa d.pend.length pc) := (((Ex.refl [] W).alloc _).drew).cell (by simp) c4
    have hD2 : w2.heap[D]? = W.heap[D]? := (hgrow.block D (lt_of_block_cell c4b) hDp).trans (Below.heap_alloc _ _ _ (lt_of_block_cell c4))
    have c42 : w2.cell? ⟨D, 4, none⟩ = some (.slice pa d.pend.length pc) := (World.cell?_of_block hD2).trans c4
    have f42 : w2.frozen? ⟨D, 4, none⟩ = false := (frozen_of_block hD2).trans f4
    have hr2 : w2.rangeAt w1.heap.size 0 cs := by
      have hb2 : w2.heap[w1.heap.size]? = W.heap[w1.heap.size]? := by
        refine (hgrow.block _ (by simp; omega) ?_).trans (Below.heap_alloc _ _ _ e3)
        intro he
        have := own_lt HPN.out w1.heap.size (by simp [bk, ← he])
        omega
      intro j u hj
      exact (World.cell?_of_block hb2).trans (hr j u hj)
    refine hK.out _ _ hr2 (fun _ => ?_)
    try simp only [Act.put, List.setIfInBounds_toArray, List.set_cons_zero, List.set_cons_succ]
    clear hK K
    refine wpAnyH_take (i := 8) (v := .pointer (some ⟨D, 0, none⟩)) rfl (by kernel_rfl) (by kernel_rfl) (by kernel_rfl) (fun _ _ _ h => h) (Or.inl ⟨by rfl, by intro w hSw; go_simp⟩) hr2 ?_
    try simp only [Act.put, List.setIfInBounds_toArray, List.set_cons_zero, List.set_cons_succ]
    refine wpAnyH_take (i := 9) (v := .pointer (some ⟨D, 4, none⟩)) rfl (by kernel_rfl) (by kernel_rfl) (by kernel_rfl) (fun _ _ _ h => h) (Or.inl ⟨by rfl, by intro w hSw; go_simp⟩) hr2 ?_
    try simp only [Act.put, List.setIfInBounds_toArray, List.set_cons_zero, List.set_cons_succ]
    refine wpAnyH_ready (rs := [10]) (by kernel_rfl) (by simp) ?_
    refine AllReadyH.cons (o := _) rfl (fun K hK => ?_) AllReadyH.nil
    go_simp
    refine hK.out _ _ (rangeAt_setCell hr2 (by simpa using hne9) _) (fun _ => ?_)
    clear hK K
    refine wpAnyH_done (by kernel_rfl) ?_ _
    go_wp2_with fail
    go_ret
    refine ⟨rfl, ?_⟩
    exact DevTo.trans H1.out.2.1 H1.out.2.2.1 (write_end H1.out.1 (pad64_length b hl) hat HX.out.1 HP.out hgrow (hcs ▸ hown1) hat2 c4)
end Go.Proofs.YtckmpdplmpgniaaGreat
