/- Contracts of the document's answer of layers 1, 4, 5 at the chapter's example: shapes, numbers. No condition but ranges. -/
import Derived.Test.YtckmpdplmpgniaaGreatDevE
import Derived.Test.YtckmpdplmpgniaaGreatRegP
namespace Go.Proofs.YtckmpdplmpgniaaGreat
open Go Go.RowKit

theorem within_ok (w : World) (n : Int) (h1 : 1 ≤ n) (h2 : n ≤ 8192) : Calls Tryz.prog 102 #[.int .i64 n] w fun x w' => x = .returned (.bool true) ∧ w = w' := by
  have d1 : decide (1 ≤ n) = true := by simpa using h1
  have d2 : decide (n ≤ 8192) = true := by simpa using h2
  go_enter Tryz.func102, Tryz.ntmps102
  go_wp2
  go_ret
  exact ⟨rfl, rfl⟩

/-- The example's shape. -/
def exShape : Array Value := #[.int .i64 2, .int .i64 1, .int .i64 1]

set_option maxHeartbeats 1000000 in
theorem rRight_any (w : World) : Calls Tryz.prog 70 #[.agg exShape] w fun x w' => x = .returned (.bool true) ∧ w' = w.alloc (.cells exShape 23) := by
  unfold exShape
  go_enter Tryz.func70, Tryz.ntmps70
  go_wp2_with (go_at_call 102; refine (within_ok _ _ (by decide) (by decide)).mono ?_; rintro e w' ⟨rfl, rfl⟩)
  go_ret
  exact ⟨rfl, rfl⟩

set_option maxHeartbeats 1000000 in
theorem rSectors_any (w : World) : Calls Tryz.prog 34 #[.agg exShape] w fun x w' => x = .returned (.int .i64 6) ∧ w' = (w.alloc (.cells exShape 23)).alloc (.cells exShape 23) := by
  have hR := rRight_any
  unfold exShape at hR ⊢
  go_enter Tryz.func34, Tryz.ntmps34
  go_wp2_with (go_at_call 70; refine (hR _).mono ?_; rintro e w' ⟨rfl, rfl⟩)
  go_ret
  exact ⟨rfl, rfl⟩

set_option maxRecDepth 100000 in
set_option maxHeartbeats 1000000 in
theorem rNumber_small (w : World) (n : Nat) (hn : n < 128) : Calls Tryz.prog 164 #[.int .i64 n] w fun x w' => ∃ a cap, x = .returned (.slice a 1 cap) ∧ Own w' 5 1 (.slice a 1 cap) 1 (encB [UInt8.ofNat n]) ∧ Ex [] w w' ∧ (∀ k ∈ bk (.slice a 1 cap), w.heap.size ≤ k) := by
  have d1 : decide (128 ≤ (n : Int)) = false := by simp; omega
  have hown := World.ownsRow_nil w 0 5 1
  go_enter Tryz.func164, Tryz.ntmps164
  go_wp2
  refine wp_loop_rounds 1 ?_
  rw [rounds_succ]
  go_wp2_with (at_builtin; go_loud (refine wpList_app _ rfl _ _ 37 rfl Tryz.underlying37 info_u8 rfl (by decide) (.slice none 0 0) 0 [] rfl (hown.alloc _) _ 1 [_] rfl (rd_new w #[_] _ 1 1 rfl (by decide)) (by intro u hu; simp at hu; subst hu; rfl) (by unfold maxLen; omega) (by omega) ?_); intro a' cap' w1 hown' hgrow hsw hnl)
  go_ret
  simp only [Value.ownBlock] at hgrow
  have e : (n : Int) = ((UInt8.ofNat n).toNat : Int) := by rw [u8_small n (by omega)]
  refine ⟨a', cap', rfl, ?_, ((Ex.refl [] w).alloc _).grown hgrow (by simp), fun k hk => ?_⟩
  · rw [encB_one, ← e]
    exact hown'
  · rcases hsw k hk with h | h
    · simp [bk, Value.ownBlock] at h
    · rw [h]; simp
end Go.Proofs.YtckmpdplmpgniaaGreat
/- Contracts of the document's answer of layer 1: numbers into a maker; a head's sector. No condition but ranges. -/
namespace Go.Proofs.YtckmpdplmpgniaaGreat
open Go Go.RowKit

/-- append onto a row of the call's own, as an operation of a region that is gone through by hand. -/
theorem step_app {P : Program} {ops : Array Oper} {Q : Exit → Act → World → Prop} {K : Act → World → Prop} (w : World) {o : Oper} {a : Act} (hw : Region.wanted o (yielded ops a.tmps) = true) (s x : Operand) (t : TypeId)
    (ho : o.op = .call { callee := .builtin .append, args := #[s, x], argTypes := #[t, t] })
    {e : TypeId} {z : Value} {size bytes : Nat} (ht : P.underlying t = some (.slice e)) (hinfo : (P.info? e).map (fun i => (i.zero, i.size, i.bytes)) = some (some z, size, bytes)) (hzs : z.cells.size = size) (hsz : 0 < size)
    (v : Value) (n : Nat) (xs : List Value) (hs : a.eval s = v) (hown : Own w e size v n xs) (y : Value) (m : Nat) (news : List Value) (hx : a.eval x = y) (hy : Rd w size y m news) (h1 : ∀ u ∈ news, u.oneCell' = true)
    (h63 : n + m ≤ maxLen) (hbytes : (n + m) * bytes ≤ 140737488355328)
    (h : ∀ a' cap' w', Own w' e size (.slice a' (n + m) cap') (n + m) (xs ++ news) → w.grownBy w' v.ownBlock → (∀ k ∈ bk (.slice a' (n + m) cap'), k ∈ bk v ∨ k = w.heap.size) → (a' = none ↔ v = .slice none 0 0 ∧ m = 0) → K (a.put o.dst (.slice a' (n + m) cap')) w') : if Region.wanted o (yielded ops a.tmps) = true then Oper.wp P o a w K Q else K (a.put o.dst undef) w := by
  rw [if_pos hw]
  obtain ⟨a', cap', w', hr, h2, h3, h4, h5⟩ := run_app (P := P) w (ty := o.type) ht hinfo hzs hsz hown hy h1 h63 hbytes
  unfold Oper.wp execOp
  simp only [ho, resolve, invoke, builtin, Sem.run_bind, Sem.run_pure, Result.andThen_ok, List.map_toArray, List.map_cons, List.map_nil, hs, hx, hr]
  exact h a' cap' w' h2 h3 h4 h5

/-- The document's maker at a block: its blocks, its bytes. -/
def RMk (w : World) (B : Nat) (F : List Nat) (bs : List UInt8) : Prop :=
  ∃ v, F = B :: bk v ∧ w.heap[B]? = some (.cells #[v, .bool false] 226 (0, 0)) ∧ Own w 5 1 v bs.length (encB bs)

def RMkTo (w : World) (B : Nat) (F : List Nat) (bs : List UInt8) (w' : World) : Prop := ∃ F', RMk w' B F' bs ∧ Sw w F F' ∧ Ex F w w'

theorem RMk.ex {w w' : World} {B : Nat} {F G : List Nat} {bs : List UInt8} (h : RMk w B F bs) (hx : Ex G w w') (hd : ∀ k ∈ F, k ∉ G) : RMk w' B F bs := by
  obtain ⟨v, rfl, hb, ho⟩ := h
  exact ⟨v, rfl, hx.obj hb (hd _ (by simp)), own_ex ho hx fun k hk => hd k (by simp [hk])⟩
theorem RMk.pure {w w' : World} {B : Nat} {F : List Nat} {bs : List UInt8} (h : RMk w B F bs) (hx : Ex [] w w') : RMk w' B F bs := h.ex hx fun _ _ => by simp

theorem rmk_push {wr w0 w1 : World} {B n' : Nat} {v : Value} {bs news : List UInt8} {xs : List Value} {a' : Option Addr} {cap' : Nat} (hb : wr.heap[B]? = some (.cells #[v, .bool false] 226 (0, 0))) (hown : Own wr 5 1 v bs.length (encB bs)) (hx : Ex [] wr w0)
    (hown' : Own w1 5 1 (.slice a' n' cap') n' xs) (hgrow : w0.grownBy w1 v.ownBlock) (hsw : ∀ k ∈ bk (.slice a' n' cap'), k ∈ bk v ∨ k = w0.heap.size) (hn : n' = bs.length + news.length) (he : xs = encB bs ++ encB news) :
    RMkTo wr B (B :: bk v) (bs ++ news) (w1.setCell ⟨B, 0, none⟩ (.slice a' n' cap')) := by
  subst he
  have hb1 := block_grown (hx.obj hb (by simp)) hgrow (owns_ne hown hb (by decide))
  obtain ⟨s1, s2⟩ := store_row (j := 0) hb1 hown' (by decide)
  refine ⟨_, ⟨_, rfl, s1, ?_⟩, ?_, ?_⟩
  · rw [encB_append, List.length_append, ← hn]; exact s2
  · intro k hk
    rcases List.mem_cons.1 hk with rfl | hk
    · exact .inl (by simp)
    · rcases hsw k hk with h | h
      · exact .inl (by simp [h])
      · exact .inr (by rw [h]; exact hx.size)
  · exact (((hx.of_nil (F := B :: bk v))).grown hgrow (fun k hk => .inl (by simp [bk, hk]))).setCell (.inl (by simp)) _

set_option maxRecDepth 100000 in
set_option maxHeartbeats 2000000 in
theorem rNum_small (w : World) (B : Nat) (F : List Nat) (bs : List UInt8) (n : Nat) (hn : n < 128) (hl : bs.length ≤ 1000) (h : RMk w B F bs) :
    Calls Tryz.prog 141 #[.pointer (some ⟨B, 0, none⟩), .int .i64 n] w fun x w' => x = .returned (.tuple #[]) ∧ RMkTo w B F (bs ++ [UInt8.ofNat n]) w' := by
  obtain ⟨v, rfl, hb, hown⟩ := h
  have HB := Lib.hid hb
  have HO := Lib.hid hown
  have c0 : w.cell? ⟨B, 0, none⟩ = some v := by rw [cell_of_block hb]; rfl
  have d1 : decide ((n : Int) < 0) = false := by simp
  have d2 : decide (1099511627776 < (n : Int)) = false := by simp; omega
  clear hb hown
  go_enter Tryz.func141, Tryz.ntmps141
  go_wp2_with fail
  refine wp_region_L 10 (fun w' => w'.cell? ⟨B, 0, none⟩ = some v) (by kernel_rfl) ?_
  have hT : w.drew.cell? ⟨B, 0, none⟩ = some v := c0
  refine wpL_take (i := 0) (v := .pointer (some ⟨B, 0, none⟩)) rfl (by kernel_rfl) (by kernel_rfl) (by kernel_rfl) (by kernel_rfl) (by decide) (fun _ _ _ h => h) (Or.inl ⟨by rfl, by intro w hSw; go_simp⟩) hT ?_
  try simp only [Act.put, List.setIfInBounds_toArray, List.set_cons_zero, List.set_cons_succ]
  refine wpL_take (i := 1) (v := .pointer (some ⟨B, 0, none⟩)) rfl (by kernel_rfl) (by kernel_rfl) (by kernel_rfl) (by kernel_rfl) (by decide) (fun _ _ _ h => h) (Or.inl ⟨by rfl, by intro w hSw; go_simp⟩) hT ?_
  try simp only [Act.put, List.setIfInBounds_toArray, List.set_cons_zero, List.set_cons_succ]
  refine wpL_take (i := 2) (v := .pointer (some ⟨B, 0, none⟩)) rfl (by kernel_rfl) (by kernel_rfl) (by kernel_rfl) (by kernel_rfl) (by decide) (fun _ _ _ h => h) (Or.inl ⟨by rfl, by intro w hSw; go_simp⟩) hT ?_
  try simp only [Act.put, List.setIfInBounds_toArray, List.set_cons_zero, List.set_cons_succ]
  refine wpL_take (i := 3) (v := .pointer (some ⟨B, 0, none⟩)) rfl (by kernel_rfl) (by kernel_rfl) (by kernel_rfl) (by kernel_rfl) (by decide) (fun _ _ _ h => h) (Or.inl ⟨by rfl, by intro w hSw; go_simp⟩) hT ?_
  try simp only [Act.put, List.setIfInBounds_toArray, List.set_cons_zero, List.set_cons_succ]
  refine wpL_take (i := 4) (v := v) rfl (by kernel_rfl) (by kernel_rfl) (by kernel_rfl) (by kernel_rfl) (by decide) (fun _ _ _ h => h) (Or.inl ⟨by rfl, by intro w hSw; go_simp⟩) hT ?_
  try simp only [Act.put, List.setIfInBounds_toArray, List.set_cons_zero, List.set_cons_succ]
  refine wpL_take (i := 5) (v := .int .i64 n) rfl (by kernel_rfl) (by kernel_rfl) (by kernel_rfl) (by kernel_rfl) (by decide) (fun _ _ _ h => h) (Or.inl ⟨by rfl, by intro w hSw; go_simp⟩) hT ?_
  try simp only [Act.put, List.setIfInBounds_toArray, List.set_cons_zero, List.set_cons_succ]
  refine wpL_ready (rs := [6]) (by kernel_rfl) (by simp) ?_
  refine AllNext.cons (o := _) rfl (fun K hK => ?_) AllNext.nil
  go_simp
  refine (rNumber_small w.drew n hn).mono ?_
  rintro x w1 ⟨a1, cap1, rfl, ho1, hx1, _⟩
  have hT1 : w1.cell? ⟨B, 0, none⟩ = some v := hx1.cell (by simp) hT
  have HX1 := Lib.hid (And.intro ho1 (((Ex.refl [] w).drew).pure hx1))
  clear ho1 hx1
  refine hK.out _ _ (fun _ => hT1) ?_
  try simp only [Act.put, List.setIfInBounds_toArray, List.set_cons_zero, List.set_cons_succ]
  clear hK K
  refine wpL_ready (rs := [7]) (by kernel_rfl) (by simp) ?_
  refine AllNext.cons (o := _) rfl (fun K hK => ?_) AllNext.nil
  refine step_app w1 (by rfl) _ _ _ (by rfl) Tryz.underlying37 info_u8 rfl (by decide) v bs.length (encB bs) (by rfl) (own_pure HO.out HX1.out.2) (.slice a1 1 cap1) 1 (encB [UInt8.ofNat n]) (by rfl) (rd_of_owns HX1.out.1) (encB_oneCell _) (by unfold maxLen; omega) (by omega) ?_
  intro a2 cap2 w2 hown2 hgrow hsw hnl
  have hb2 := block_grown (HX1.out.2.obj HB.out (by simp)) hgrow (owns_ne HO.out HB.out (by decide))
  have hT2 : w2.cell? ⟨B, 0, none⟩ = some v := by rw [cell_of_block hb2]; rfl
  have hf2 : w2.frozen? ⟨B, 0, none⟩ = false := free_of_block hb2
  refine hK.out _ _ (fun _ => hT2) ?_
  try simp only [Act.put, List.setIfInBounds_toArray, List.set_cons_zero, List.set_cons_succ]
  clear hK K
  refine wpL_take (i := 8) (v := .pointer (some ⟨B, 0, none⟩)) rfl (by kernel_rfl) (by kernel_rfl) (by kernel_rfl) (by kernel_rfl) (by decide) (fun _ _ _ h => h) (Or.inl ⟨by rfl, by intro w hSw; go_simp⟩) hT2 ?_
  try simp only [Act.put, List.setIfInBounds_toArray, List.set_cons_zero, List.set_cons_succ]
  refine wpL_take (i := 9) (v := .pointer (some ⟨B, 0, none⟩)) rfl (by kernel_rfl) (by kernel_rfl) (by kernel_rfl) (by kernel_rfl) (by decide) (fun _ _ _ h => h) (Or.inl ⟨by rfl, by intro w hSw; go_simp⟩) hT2 ?_
  try simp only [Act.put, List.setIfInBounds_toArray, List.set_cons_zero, List.set_cons_succ]
  refine wpL_ready (rs := [10]) (by kernel_rfl) (by simp) ?_
  refine AllNext.cons (o := _) rfl (fun K hK => ?_) AllNext.nil
  have H2 := Lib.hid (And.intro hown2 (And.intro hgrow hsw))
  clear hown2 hgrow hsw hnl hb2
  go_simp
  refine hK.out _ _ (fun h => absurd h (by decide)) ?_
  clear hK K
  refine wpL_done (by kernel_rfl) ?_ _
  go_end0
  exact ⟨rfl, rmk_push HB.out HO.out HX1.out.2 H2.out.1 H2.out.2.1 H2.out.2.2 rfl rfl⟩
set_option maxRecDepth 100000 in
set_option maxHeartbeats 2000000 in
theorem rSectorOf_ex (w : World) : Calls Tryz.prog 122 #[.agg #[.int .i64 0, .int .i64 0, .int .i64 0, .int .i64 1]] w fun x w' => ∃ a cap, x = .returned (.slice a 4 cap) ∧ Own w' 5 1 (.slice a 4 cap) 4 (encB [0, 0, 0, 1]) ∧ Ex [] w w' ∧ (∀ k ∈ bk (.slice a 4 cap), w.heap.size ≤ k) := by
  go_enter Tryz.func122, Tryz.ntmps122
  go_wp2_with fail
  have hm : RMk ((w.alloc (.cells #[.int .i64 0, .int .i64 0, .int .i64 0, .int .i64 1] 184)).alloc (.cells #[.slice none 0 0, .bool false] 226)) (w.heap.size + 1) [w.heap.size + 1] [] :=
    ⟨.slice none 0 0, rfl, by have := heap_alloc_new (w.alloc (.cells #[.int .i64 0, .int .i64 0, .int .i64 0, .int .i64 1] 184)) (.cells #[.slice none 0 0, .bool false] 226); simpa using this, World.ownsRow_nil _ _ _ _⟩
  have hx0 : Ex [] w ((w.alloc (.cells #[.int .i64 0, .int .i64 0, .int .i64 0, .int .i64 1] 184)).alloc (.cells #[.slice none 0 0, .bool false] 226)) := ((Ex.refl [] w).alloc _).alloc _
  have hb0 := block_alloc (o := .cells #[.slice none 0 0, .bool false] 226) (heap_alloc_new w (.cells #[.int .i64 0, .int .i64 0, .int .i64 0, .int .i64 1] 184))
  have hsz : ((w.alloc (.cells #[.int .i64 0, .int .i64 0, .int .i64 0, .int .i64 1] 184)).alloc (.cells #[.slice none 0 0, .bool false] 226)).heap.size = w.heap.size + 1 + 1 := by simp
  generalize (w.alloc (.cells #[.int .i64 0, .int .i64 0, .int .i64 0, .int .i64 1] 184)).alloc (.cells #[.slice none 0 0, .bool false] 226) = W0 at *
  have hF0 : ∀ k ∈ [w.heap.size + 1], w.heap.size + 1 ≤ k := by simp
  have H0 := Lib.hid (And.intro hm (And.intro hx0 (And.intro hb0 hF0)))
  have HZ := Lib.hid hsz
  clear hm hx0 hb0 hF0 hsz
  refine (rNum_small W0 (w.heap.size + 1) [w.heap.size + 1] [] 0 (by decide) (by simp) H0.out.1).mono ?_
  rintro x w1 ⟨rfl, F1, hm, hs, hx⟩
  have hb := hx.obj H0.out.2.2.1 (fun hm => by have := H0.out.2.2.2 _ hm; omega)
  have hF : ∀ k ∈ F1, w.heap.size + 1 ≤ k := fun k hk => (hs k hk).elim (H0.out.2.2.2 k) (fun h => by have := H0.out.2.1.size; have := lt_of_block H0.out.2.2.1; omega)
  have hxx : Ex [] w w1 := H0.out.2.1.off hx (fun k hk => by have := H0.out.2.2.2 k hk; omega)
  have c1 : w1.cell? ⟨w.heap.size, 1, none⟩ = some (.int .i64 0) := by rw [cell_of_block hb]; rfl
  have H1 := Lib.hid (And.intro hm (And.intro hxx (And.intro hb hF)))
  clear hm hs hx hb hF hxx
  go_wp2_with fail
  refine (rNum_small w1 (w.heap.size + 1) F1 _ 0 (by decide) (by simp) H1.out.1).mono ?_
  clear c1
  rintro x w2 ⟨rfl, F2, hm, hs, hx⟩
  have hb := hx.obj H1.out.2.2.1 (fun hm => by have := H1.out.2.2.2 _ hm; omega)
  have hF : ∀ k ∈ F2, w.heap.size + 1 ≤ k := fun k hk => (hs k hk).elim (H1.out.2.2.2 k) (fun h => by have := H1.out.2.1.size; have := lt_of_block H1.out.2.2.1; omega)
  have hxx : Ex [] w w2 := H1.out.2.1.off hx (fun k hk => by have := H1.out.2.2.2 k hk; omega)
  have c2 : w2.cell? ⟨w.heap.size, 2, none⟩ = some (.int .i64 0) := by rw [cell_of_block hb]; rfl
  have H2 := Lib.hid (And.intro hm (And.intro hxx (And.intro hb hF)))
  clear hm hs hx hb hF hxx
  go_wp2_with fail
  refine (rNum_small w2 (w.heap.size + 1) F2 _ 0 (by decide) (by simp) H2.out.1).mono ?_
  clear c2
  rintro x w3 ⟨rfl, F3, hm, hs, hx⟩
  have hb := hx.obj H2.out.2.2.1 (fun hm => by have := H2.out.2.2.2 _ hm; omega)
  have hF : ∀ k ∈ F3, w.heap.size + 1 ≤ k := fun k hk => (hs k hk).elim (H2.out.2.2.2 k) (fun h => by have := H2.out.2.1.size; have := lt_of_block H2.out.2.2.1; omega)
  have hxx : Ex [] w w3 := H2.out.2.1.off hx (fun k hk => by have := H2.out.2.2.2 k hk; omega)
  have c3 : w3.cell? ⟨w.heap.size, 3, none⟩ = some (.int .i64 1) := by rw [cell_of_block hb]; rfl
  have H3 := Lib.hid (And.intro hm (And.intro hxx (And.intro hb hF)))
  clear hm hs hx hb hF hxx
  go_wp2_with fail
  refine (rNum_small w3 (w.heap.size + 1) F3 _ 1 (by decide) (by simp) H3.out.1).mono ?_
  clear c3
  rintro x w4 ⟨rfl, F4, hm, hs, hx⟩
  have hb := hx.obj H3.out.2.2.1 (fun hm => by have := H3.out.2.2.2 _ hm; omega)
  have hF : ∀ k ∈ F4, w.heap.size + 1 ≤ k := fun k hk => (hs k hk).elim (H3.out.2.2.2 k) (fun h => by have := H3.out.2.1.size; have := lt_of_block H3.out.2.2.1; omega)
  have hxx : Ex [] w w4 := H3.out.2.1.off hx (fun k hk => by have := H3.out.2.2.2 k hk; omega)
  obtain ⟨v, hFv, hbm, hov⟩ := hm
  have cv : w4.cell? ⟨w.heap.size + 1, 0, none⟩ = some v := by rw [cell_of_block hbm]; rfl
  have HV := Lib.hid (And.intro hFv (And.intro hov (And.intro hxx hF)))
  clear hFv hbm hov hxx hF hs hx hb
  go_wp2_with fail
  go_ret
  obtain ⟨hFv, hov, hxx, hF⟩ := HV.out
  obtain ⟨_, a, cap, hveq, _⟩ := rd_of_owns hov
  subst hveq
  refine ⟨a, cap, rfl, by simpa using hov, hxx, fun k hk => ?_⟩
  have := hF k (by rw [hFv]; exact List.mem_cons_of_mem _ hk)
  omega
end Go.Proofs.YtckmpdplmpgniaaGreat
/- Contracts of the document's answer of layer 4 at the chapter's example: a device of six sectors. No condition but ranges. -/
namespace Go.Proofs.YtckmpdplmpgniaaGreat
open Go Go.RowKit

/-- The document's device at a block, nothing pending: its blocks, all that is kept, its deeds. -/
def RD0 (w : World) (E : Nat) (F : List Nat) (all : List UInt8) (dd : Nat) : Prop :=
  ∃ av, F = E :: bk av ∧ w.heap[E]? = some (.cells #[av, .slice none 0 0, .int .i64 dd, .int .i64 0, .bool false] 181 (0, 0)) ∧ Own w 5 1 av all.length (encB all)

/-- .. one write of sector 0 pending. -/
def RD1 (w : World) (E : Nat) (F : List Nat) (all : List UInt8) (dd : Nat) (full : List UInt8) : Prop :=
  ∃ av g wc fv, F = E :: (bk av ++ g :: bk fv) ∧ w.heap[E]? = some (.cells #[av, .slice (some ⟨g, 0, none⟩) 1 wc, .int .i64 dd, .int .i64 0, .bool false] 181 (0, 0)) ∧ Own w 5 1 av all.length (encB all) ∧
    Own w 223 2 (.slice (some ⟨g, 0, none⟩) 1 wc) 1 [.int .i64 0, fv] ∧ Own w 5 1 fv 64 (encB full) ∧ full.length = 64

theorem RD0.ex {w w' : World} {E dd : Nat} {F G : List Nat} {all : List UInt8} (h : RD0 w E F all dd) (hx : Ex G w w') (hd : ∀ k ∈ F, k ∉ G) : RD0 w' E F all dd := by
  obtain ⟨av, rfl, hb, ho⟩ := h
  exact ⟨av, rfl, hx.obj hb (hd _ (by simp)), own_ex ho hx fun k hk => hd k (by simp [hk])⟩
theorem RD0.pure {w w' : World} {E dd : Nat} {F : List Nat} {all : List UInt8} (h : RD0 w E F all dd) (hx : Ex [] w w') : RD0 w' E F all dd := h.ex hx fun _ _ => by simp
theorem RD0.lt {w : World} {E dd : Nat} {F : List Nat} {all : List UInt8} (h : RD0 w E F all dd) : ∀ k ∈ F, k < w.heap.size := by
  obtain ⟨av, rfl, hb, ho⟩ := h
  intro k hk
  rcases List.mem_cons.1 hk with rfl | hk
  · exact lt_of_block hb
  · exact own_lt ho k hk

theorem made_bytes (n : Nat) : (madeCells (Value.int .u8 0).cells n).toList = encB (List.replicate n 0) := by
  have e : encB (List.replicate n 0) = List.replicate n (Value.int .u8 0) := by simp [encB]
  have hc : (Value.int .u8 0).cells = #[.int .u8 0] := by kernel_rfl
  rw [e, hc]
  apply List.ext_getElem?
  intro j
  by_cases hj : j < n <;> simp [madeCells, hj, Nat.mod_one]

set_option maxRecDepth 100000 in
set_option maxHeartbeats 1000000 in
theorem rNew_ex (w : World) :
    Calls Tryz.prog 66 #[.int .i64 6] w fun x w' => ∃ E F, x = .returned (.tuple #[.pointer (some ⟨E, 0, none⟩), .int .i64 0]) ∧ RD0 w' E F (List.replicate 384 0) 0 ∧ (∀ k ∈ F, w.heap.size ≤ k) ∧ Ex [] w w' := by
  obtain ⟨i0, hi, hz0, hz1, hz2⟩ := info_parts info_u8
  go_enter Tryz.func66, Tryz.ntmps66
  go_wp2_with (at_make; go_loud (refine wpList_make_full _ rfl _ _ 37 rfl 0 5 i0 _ 1 Tryz.underlying37 hi hz0 hz1 _ _ _ _ 384 rfl rfl rfl rfl (by rw [hz2]; omega) (by unfold maxLen; omega) (Nat.zero_le _) ?_); intro w1 hown hgrow)
  go_ret2
  have hx : Ex [] w w1 := (Ex.refl [] w).grown hgrow (by simp)
  rw [made_bytes] at hown
  refine ⟨w1.heap.size, _, rfl, ⟨_, rfl, heap_alloc_new _ _, ?_⟩, ?_, hx.alloc _⟩
  · have : (List.replicate 384 (0 : UInt8)).length = 384 := by simp
    rw [this]
    exact hown.alloc _
  · intro k hk
    simp [bk, Value.ownBlock] at hk
    have := hx.size
    omega

set_option maxHeartbeats 1000000 in
theorem rSects_ex (w : World) (E dd : Nat) (F : List Nat) (all : List UInt8) (hl : all.length = 384) (h : RD0 w E F all dd) :
    Calls Tryz.prog 99 #[.pointer (some ⟨E, 0, none⟩)] w fun x w' => x = .returned (.int .i64 6) ∧ w = w' := by
  obtain ⟨av, rfl, hb, ho⟩ := h
  obtain ⟨_, a, cap, rfl, _⟩ := rd_of_owns ho
  have c0 : w.cell? ⟨E, 0, none⟩ = some (.slice a 384 cap) := by rw [cell_of_block hb, hl]; rfl
  clear hb ho hl
  go_enter Tryz.func99, Tryz.ntmps99
  go_wp2
  go_ret
  exact ⟨rfl, rfl⟩

set_option maxHeartbeats 1000000 in
theorem rDeed_ex (w : World) (E dd : Nat) (cs : Array Value) (T : TypeId) (av wv : Value) (hdd : dd ≤ 1000) (hb : w.heap[E]? = some (.cells #[av, wv, .int .i64 dd, .int .i64 0, .bool false] T (0, 0))) :
    Calls Tryz.prog 140 #[.pointer (some ⟨E, 0, none⟩)] w fun x w' => x = .returned (.bool true) ∧ w' = w.setCell ⟨E, 2, none⟩ (.int .i64 (dd + 1 : Nat)) := by
  have c3 : w.cell? ⟨E, 3, none⟩ = some (.int .i64 0) := by rw [cell_of_block hb]; rfl
  have c2 : w.cell? ⟨E, 2, none⟩ = some (.int .i64 dd) := by rw [cell_of_block hb]; rfl
  have f2 : w.frozen? ⟨E, 2, none⟩ = false := free_of_block hb
  clear hb
  go_enter Tryz.func140, Tryz.ntmps140
  go_wp2
  go_ret
  exact ⟨rfl, rfl⟩
end Go.Proofs.YtckmpdplmpgniaaGreat
