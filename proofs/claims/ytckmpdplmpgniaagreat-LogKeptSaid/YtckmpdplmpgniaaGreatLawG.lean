/- The law's model: what there is behind a deed. No condition but ranges. -/
import Derived.Test.YtckmpdplmpgniaaGreatLawF
namespace Go.Proofs.YtckmpdplmpgniaaGreat
open Go Go.RowKit

/-- What a call of the journal's tells, and leaves. -/
def Told (W : World) (J D L A Da : Nat) (F : List Nat) (h' : Hd) (lost : Bool) (p : Nat × Dv) (x : Ending) (w' : World) : Prop :=
  x = .returned (.int .i64 p.1) ∧ (∃ F', DevAt w' D F' p.2 ∧ Sw W F F' ∧ J ∉ F') ∧ JnAt w' J D h' L A Da lost ∧ Ex (J :: F) W w'

/-- What then tells, and leaves. -/
def Thend (w : World) (X : List Nat) (J D L A Da : Nat) (F : List Nat) (h' : Hd) (lost : Bool) (p : Nat × Dv) (area : List UInt8) (recs : List (List UInt8)) (x : Ending) (w' : World) : Prop :=
  ∃ av' rv' F', x = .returned (.tuple #[.agg #[av', rv'], .int .i64 p.1]) ∧ DevAt w' D F' p.2 ∧ Sw w F F' ∧ J ∉ F' ∧ JnAt w' J D h' L A Da lost ∧ Md w' (J :: (F' ++ X)) av' rv' area recs ∧ Ex (J :: F) w w'

theorem set2 {W : World} {g : Nat} {a b a' b' : Value} (h0 : W.cell? ⟨g, 0, none⟩ = some a) (h1 : W.cell? ⟨g, 1, none⟩ = some b) :
    ((W.setCell ⟨g, 0, none⟩ a').setCell ⟨g, 1, none⟩ b').cell? ⟨g, 0, none⟩ = some a' ∧ ((W.setCell ⟨g, 0, none⟩ a').setCell ⟨g, 1, none⟩ b').cell? ⟨g, 1, none⟩ = some b' :=
  ⟨far_off (cell_set_same h0) (by decide), cell_set_same (far_off h1 (by decide))⟩

set_option maxRecDepth 100000 in
set_option maxHeartbeats 8000000 in
theorem then_sw (w : World) (X : List Nat) (J D L A Da : Nat) (F : List Nat) (h' : Hd) (lost : Bool) (p : Nat × Dv) (av rv v : Value) (wh nn bt : Int) (area x : List UInt8) (recs : List (List UInt8)) (hwh : -9223372036854775808 ≤ wh ∧ wh ≤ 9223372036854775807) (hx : RdB w v x) (hvb : Sep w x.length v (J :: (F ++ X))) (hm : Md w (J :: (F ++ X)) av rv area recs) (hfb : J < w.heap.size ∧ J ∉ F ∧ ∀ k ∈ F, k < w.heap.size)
    (hcall : ∀ W, Ex [] w W → Calls Tryz.prog 21 #[.pointer (some ⟨J, 0, none⟩), v] W (Told W J D L A Da F h' lost p)) (hpick : pick wh 9 = 2) :
    Calls Tryz.prog 15 #[.agg #[av, rv], .pointer (some ⟨J, 0, none⟩), .agg #[.int .i64 wh, .int .i64 nn, .int .i64 bt, v]] w (Thend w X J D L A Da F h' lost p x []) := by
  have HCALL := Lib.hid hcall
  have HX := Lib.hid hx
  have HVB := Lib.hid hvb
  have HM := Lib.hid hm
  have HFB := Lib.hid hfb
  have hb0 := block_alloc (o := (.cells #[.slice none 0 0, .slice none 0 0] 40)) (block_alloc (o := (.cells #[.int .i64 wh, .int .i64 nn, .int .i64 bt, v] 42)) (heap_alloc_new w (.cells #[av, rv] 40)))
  have hb1 := block_alloc (o := (.cells #[.slice none 0 0, .slice none 0 0] 40)) (heap_alloc_new (w.alloc (.cells #[av, rv] 40)) (.cells #[.int .i64 wh, .int .i64 nn, .int .i64 bt, v] 42))
  have hb2 := heap_alloc_new ((w.alloc (.cells #[av, rv] 40)).alloc (.cells #[.int .i64 wh, .int .i64 nn, .int .i64 bt, v] 42)) (.cells #[.slice none 0 0, .slice none 0 0] 40)
  rw [show (w.alloc (.cells #[av, rv] 40)).heap.size = w.heap.size + 1 from by simp] at hb1
  rw [show ((w.alloc (.cells #[av, rv] 40)).alloc (.cells #[.int .i64 wh, .int .i64 nn, .int .i64 bt, v] 42)).heap.size = w.heap.size + 1 + 1 from by simp] at hb2
  have hx0 : Ex [] w (((w.alloc (.cells #[av, rv] 40)).alloc (.cells #[.int .i64 wh, .int .i64 nn, .int .i64 bt, v] 42)).alloc (.cells #[.slice none 0 0, .slice none 0 0] 40)) := (((Ex.refl [] w).alloc _).alloc _).alloc _
  have H0 := Lib.hid (And.intro hx0 (And.intro hb0 (And.intro hb1 hb2)))
  have hpk : (pick wh 9 == 2) = true := by rw [hpick]; rfl
  obtain ⟨_, xa, xc, rfl, _, _, _, _⟩ := hx
  clear hcall hvb hb0 hb1 hb2 hx0 hm hfb hpick
  go_enter Tryz.func15, Tryz.ntmps15
  have q0 : (((w.alloc (.cells #[av, rv] 40)).alloc (.cells #[.int .i64 wh, .int .i64 nn, .int .i64 bt, (.slice xa x.length xc)] 42)).alloc (.cells #[.slice none 0 0, .slice none 0 0] 40)).cell? ⟨w.heap.size + 1, 0, none⟩ = some (.int .i64 wh) := (cell_of_block H0.out.2.2.1).trans rfl
  have q3 : (((w.alloc (.cells #[av, rv] 40)).alloc (.cells #[.int .i64 wh, .int .i64 nn, .int .i64 bt, (.slice xa x.length xc)] 42)).alloc (.cells #[.slice none 0 0, .slice none 0 0] 40)).cell? ⟨w.heap.size + 1, 3, none⟩ = some (.slice xa x.length xc) := (cell_of_block H0.out.2.2.1).trans rfl
  have r0 : (((w.alloc (.cells #[av, rv] 40)).alloc (.cells #[.int .i64 wh, .int .i64 nn, .int .i64 bt, (.slice xa x.length xc)] 42)).alloc (.cells #[.slice none 0 0, .slice none 0 0] 40)).cell? ⟨w.heap.size, 0, none⟩ = some av := (cell_of_block H0.out.2.1).trans rfl
  have r1 : (((w.alloc (.cells #[av, rv] 40)).alloc (.cells #[.int .i64 wh, .int .i64 nn, .int .i64 bt, (.slice xa x.length xc)] 42)).alloc (.cells #[.slice none 0 0, .slice none 0 0] 40)).cell? ⟨w.heap.size, 1, none⟩ = some rv := (cell_of_block H0.out.2.1).trans rfl
  go_wp2_with fail
  refine (Pick_any _ wh hwh).mono ?_
  rintro e w' ⟨rfl, rfl⟩
  go_wp2_with fail
  generalize (((w.alloc (.cells #[av, rv] 40)).alloc (.cells #[.int .i64 wh, .int .i64 nn, .int .i64 bt, (.slice xa x.length xc)] 42)).alloc (.cells #[.slice none 0 0, .slice none 0 0] 40)) = W0 at *
  have hT : W0.drew.cell? ⟨w.heap.size + 1, 3, none⟩ = some (.slice xa x.length xc) := q3
  clear q0 q3 r0 r1
  refine wp_region_L 7 (fun w' => w'.cell? ⟨w.heap.size + 1, 3, none⟩ = some (.slice xa x.length xc)) (by kernel_rfl) ?_
  refine wpL_take (i := 0) (oi := ⟨some 12, _, _, _, _, _⟩) (v := (.pointer (some ⟨w.heap.size + 1, 3, none⟩))) rfl (by kernel_rfl) (by kernel_rfl) (by kernel_rfl) (by kernel_rfl) (by decide) (fun _ _ _ h => h) (Or.inl ⟨by rfl, by intro w hSw; go_simp⟩) hT ?_
  try simp only [Act.put, List.setIfInBounds_toArray, List.set_cons_zero, List.set_cons_succ]
  refine wpL_take (i := 1) (oi := ⟨some 13, _, _, _, _, _⟩) (v := (.slice xa x.length xc)) rfl (by kernel_rfl) (by kernel_rfl) (by kernel_rfl) (by kernel_rfl) (by decide) (fun _ _ _ h => h) (Or.inl ⟨by rfl, by intro w hSw; go_simp⟩) hT ?_
  try simp only [Act.put, List.setIfInBounds_toArray, List.set_cons_zero, List.set_cons_succ]
  refine wpL_take (i := 2) (oi := ⟨some 14, _, _, _, _, _⟩) (v := (.agg #[(.slice xa x.length xc), .slice none 0 0])) rfl (by kernel_rfl) (by kernel_rfl) (by kernel_rfl) (by kernel_rfl) (by decide) (fun _ _ _ h => h) (Or.inl ⟨by rfl, by intro w hSw; go_simp⟩) hT ?_
  try simp only [Act.put, List.setIfInBounds_toArray, List.set_cons_zero, List.set_cons_succ]
  refine wpL_take (i := 3) (oi := ⟨some 15, _, _, _, _, _⟩) (v := (.pointer (some ⟨J, 0, none⟩))) rfl (by kernel_rfl) (by kernel_rfl) (by kernel_rfl) (by kernel_rfl) (by decide) (fun _ _ _ h => h) (Or.inl ⟨by rfl, by intro w hSw; go_simp⟩) hT ?_
  try simp only [Act.put, List.setIfInBounds_toArray, List.set_cons_zero, List.set_cons_succ]
  refine wpL_take (i := 4) (oi := ⟨some 16, _, _, _, _, _⟩) (v := (.pointer (some ⟨w.heap.size + 1, 3, none⟩))) rfl (by kernel_rfl) (by kernel_rfl) (by kernel_rfl) (by kernel_rfl) (by decide) (fun _ _ _ h => h) (Or.inl ⟨by rfl, by intro w hSw; go_simp⟩) hT ?_
  try simp only [Act.put, List.setIfInBounds_toArray, List.set_cons_zero, List.set_cons_succ]
  refine wpL_take (i := 5) (oi := ⟨some 17, _, _, _, _, _⟩) (v := (.slice xa x.length xc)) rfl (by kernel_rfl) (by kernel_rfl) (by kernel_rfl) (by kernel_rfl) (by decide) (fun _ _ _ h => h) (Or.inl ⟨by rfl, by intro w hSw; go_simp⟩) hT ?_
  try simp only [Act.put, List.setIfInBounds_toArray, List.set_cons_zero, List.set_cons_succ]
  refine wpL_ready (rs := [6]) (by kernel_rfl) (by simp) ?_
  refine AllNext.cons (o := _) rfl (fun K hK => ?_) AllNext.nil
  go_simp
  refine (HCALL.out W0.drew H0.out.1.drew).mono ?_
  rintro e w6 ⟨rfl, ⟨F6, hd6, hs6, hJ6⟩, hj6, hx6⟩
  have hni : ∀ i, w.heap.size ≤ i → i ∉ J :: F := fun i hi hm => by
    rcases List.mem_cons.1 hm with rfl | hm
    · have := HFB.out.1; omega
    · have := HFB.out.2.2 i hm; omega
  have hT6 := hx6.cell (p := ⟨w.heap.size + 1, 3, none⟩) (hni _ (by show w.heap.size ≤ w.heap.size + 1; omega)) hT
  have hR6 := hx6.obj (show W0.drew.heap[w.heap.size + 1 + 1]? = _ from H0.out.2.2.2) (hni _ (by omega))
  have s0 : w6.cell? ⟨w.heap.size + 1 + 1, 0, none⟩ = some (.slice none 0 0) := by rw [cell_of_block hR6]; rfl
  have s1 : w6.cell? ⟨w.heap.size + 1 + 1, 1, none⟩ = some (.slice none 0 0) := by rw [cell_of_block hR6]; rfl
  have z0 : w6.frozen? ⟨w.heap.size + 1 + 1, 0, none⟩ = false := free_of_block hR6
  have z1 : w6.frozen? ⟨w.heap.size + 1 + 1, 1, none⟩ = false := free_of_block hR6
  have H6 := Lib.hid (And.intro hd6 (And.intro (show Sw W0 F F6 from hs6) (And.intro hJ6 (And.intro hj6 (show Ex (J :: F) W0 w6 from ((Ex.refl _ W0).drew).trans hx6 (Sw.refl _ _))))))
  clear hd6 hs6 hJ6 hj6 hx6 hR6 hni
  refine hK.out _ _ (fun _ => hT6) ?_
  try simp only [Act.put, List.setIfInBounds_toArray, List.set_cons_zero, List.set_cons_succ]
  clear hK K
  refine wpL_ready (rs := [7]) (by kernel_rfl) (by simp) ?_
  refine AllNext.cons (o := _) rfl (fun K hK => ?_) AllNext.nil
  go_simp
  have e0 := set2 (W := w6) (a' := (.slice xa x.length xc)) (b' := .slice none 0 0) s0 s1
  refine hK.out _ _ (fun h => absurd h (by decide)) ?_
  clear hK K
  refine wpL_ready (rs := [8]) (by kernel_rfl) (by simp) ?_
  refine AllNext.cons (o := _) rfl (fun K hK => ?_) AllNext.nil
  go_simp
  refine hK.out _ _ (fun h => absurd h (by decide)) ?_
  clear hK K
  refine wpL_done (by kernel_rfl) ?_ _
  go_wp2_with fail
  refine bodyPost_ret (v := .tuple #[.agg #[(.slice xa x.length xc), .slice none 0 0], .int .i64 p.1]) (by simp [results, Tryz.results15, go_sem, e0]) rfl ?_
  obtain ⟨hd6, hs6, hJ6, hj6, hx6⟩ := H6.out
  have hJw := HFB.out.1
  have hlt6 : ∀ k ∈ F6, k < w6.heap.size := hd6.lt
  have hw6 : w.heap.size + 1 + 1 < W0.heap.size := lt_of_block H0.out.2.2.2
  have hRn : w.heap.size + 1 + 1 ∉ F6 := fun hm => by
    rcases hs6 _ hm with h | h
    · have := HFB.out.2.2 _ h; omega
    · omega
  have hx7 : Ex [w.heap.size + 1 + 1] w6 ((w6.setCell ⟨w.heap.size + 1 + 1, 0, none⟩ (.slice xa x.length xc)).setCell ⟨w.heap.size + 1 + 1, 1, none⟩ (.slice none 0 0)) := ((Ex.refl [w.heap.size + 1 + 1] w6).setCell (.inl (by simp)) _).setCell (.inl (by simp)) _
  have hsw : Sw w F F6 := hs6.mono_size H0.out.1.size
  have hxx : Ex (J :: F) w w6 := H0.out.1.of_nil.trans hx6 (Sw.refl _ _)
  have hsub : ∀ k ∈ J :: (F6 ++ X), k ∈ J :: (F ++ X) ∨ w.heap.size ≤ k := fun k hk => by
    rcases List.mem_cons.1 hk with rfl | hk
    · exact .inl (by simp)
    rcases List.mem_append.1 hk with hk | hk
    · exact (hsw k hk).imp (fun h => by simp [h]) id
    · exact .inl (by simp [hk])
  have hxf := hxx.trans hx7 (fun k hk => .inr (by simp at hk; omega))
  have hm7 : Md w (J :: (F ++ X)) (.slice xa x.length xc) (.slice none 0 0) x [] := by
    refine ⟨⟨HX.out, HVB.out⟩, [], rfl, ⟨rfl, none, 0, rfl, Nat.le_refl _, by decide, fun _ => rfl, fun h => by simp at h⟩, fun h => by simp at h, by simp⟩
  refine ⟨_, _, F6, rfl, hd6.ex hx7 (fun k hk hm => by simp at hm; subst hm; exact hRn hk), hsw, hJ6, hj6.pure hx7 (by simp; omega), ?_, hxf⟩
  exact hm7.ex (G1 := J :: F) (G2 := J :: (F6 ++ X)) hxf (fun k hk => .inl (by rcases List.mem_cons.1 hk with rfl | hk <;> simp [*])) hsub
end Go.Proofs.YtckmpdplmpgniaaGreat
/- The law's model: what there is behind a record that is appended. No condition but ranges. -/
namespace Go.Proofs.YtckmpdplmpgniaaGreat
open Go Go.RowKit

theorem rd_one {w : World} {b : Nat} {v : Value} {t : TypeId} (h : w.heap[b]? = some (.cells #[v] t (0, 0))) : Rd w 1 (.slice (some ⟨b, 0, none⟩) 1 1) 1 [v] := by
  refine ⟨rfl, _, 1, rfl, Nat.le_refl _, by decide, by simp, fun _ => ⟨b, 0, rfl, fun j u hj => ?_⟩⟩
  rw [cell_of_block h, Nat.zero_add]
  simpa using hj

theorem then_app_end {w W0 w4 w6 : World} {J D L A Da : Nat} {F F6 X : List Nat} {h' : Hd} {lost : Bool} {p : Nat × Dv} {area x : List UInt8} {recs : List (List UInt8)} {aa xa ra a9 : Option Addr} {ac xc rc c9 : Nat} {ts tsx : List (Value × List UInt8)} {T : TypeId} {mdl deed res : Obj}
    (hfb : J < w.heap.size ∧ J ∉ F ∧ ∀ k ∈ F, k < w.heap.size) (h0 : Ex [] w W0 ∧ W0.heap[w.heap.size]? = some mdl ∧ W0.heap[w.heap.size + 1]? = some deed ∧ W0.heap[w.heap.size + 1 + 1]? = some res)
    (hx : RdB w (.slice xa x.length xc) x) (hX : ∀ k ∈ X, k < w.heap.size) (hvb : Sep w x.length (.slice xa x.length xc) (J :: (F ++ X))) (hm : Md w (J :: (F ++ X)) (.slice aa area.length ac) (.slice ra ts.length rc) area recs) (htsx : tsx.map Prod.snd = recs) (hxl : tsx.length = ts.length)
    (hall : ∀ t ∈ tsx, RdB w t.1 t.2 ∧ Sep w t.2.length t.1 (J :: (F ++ X))) (ho : Own w4 T 1 (.slice a9 (ts.length + 1) c9) (ts.length + 1) (tsx.map Prod.fst ++ [.slice xa x.length xc])) (hx4 : Ex [] W0 w4) (hge : ∀ k ∈ bk (.slice a9 (ts.length + 1) c9), W0.heap.size ≤ k)
    (hd6 : DevAt w6 D F6 p.2) (hs6 : Sw w4 F F6) (hJ6 : J ∉ F6) (hj6 : JnAt w6 J D h' L A Da lost) (hx6 : Ex (J :: F) w4 w6) :
    Thend w X J D L A Da F h' lost p area (recs ++ [x]) (.returned (.tuple #[.agg #[.slice aa area.length ac, .slice a9 (ts.length + 1) c9], .int .i64 p.1])) ((w6.setCell ⟨w.heap.size + 1 + 1, 0, none⟩ (.slice aa area.length ac)).setCell ⟨w.heap.size + 1 + 1, 1, none⟩ (.slice a9 (ts.length + 1) c9)) := by
  have hw0 : Ex [] w w4 := h0.1.pure hx4
  have hwR : w.heap.size + 1 + 1 < W0.heap.size := lt_of_block h0.2.2.2
  have h04 := hx4.size
  have h46 := hx6.size
  have hsw : Sw w F F6 := hs6.mono_size hw0.size
  have hRn : w.heap.size + 1 + 1 ∉ F6 := fun hm => by
    rcases hs6 _ hm with h | h
    · have := hfb.2.2 _ h; omega
    · omega
  have hx7 : Ex [w.heap.size + 1 + 1] w6 ((w6.setCell ⟨w.heap.size + 1 + 1, 0, none⟩ (.slice aa area.length ac)).setCell ⟨w.heap.size + 1 + 1, 1, none⟩ (.slice a9 (ts.length + 1) c9)) := ((Ex.refl [w.heap.size + 1 + 1] w6).setCell (.inl (by simp)) _).setCell (.inl (by simp)) _
  have hsub : ∀ k ∈ J :: (F6 ++ X), k ∈ (w.heap.size + 1 + 1) :: J :: (F ++ X) ∨ w4.heap.size ≤ k := fun k hk => by
    rcases List.mem_cons.1 hk with rfl | hk
    · exact .inl (by simp)
    rcases List.mem_append.1 hk with hk | hk
    · exact (hs6 k hk).imp (fun h => by simp [h]) id
    · exact .inl (by simp [hk])
  have hxf : Ex (J :: F) w ((w6.setCell ⟨w.heap.size + 1 + 1, 0, none⟩ (.slice aa area.length ac)).setCell ⟨w.heap.size + 1 + 1, 1, none⟩ (.slice a9 (ts.length + 1) c9)) := (hw0.of_nil.trans hx6 (Sw.refl _ _)).trans hx7 (fun k hk => .inr (by simp at hk; omega))
  have hup : ∀ (n : Nat) (v : Value), Sep w n v (J :: (F ++ X)) → Sep w4 n v ((w.heap.size + 1 + 1) :: J :: (F ++ X)) := fun n v hv hn k hk => by
    have h1 := hv hn k hk
    refine ⟨Nat.lt_of_lt_of_le h1.1 hw0.size, fun hm => ?_⟩
    rcases List.mem_cons.1 hm with rfl | hm
    · omega
    · exact h1.2 hm
  have hnew : ∀ k ∈ bk (.slice a9 (ts.length + 1) c9), k < w4.heap.size ∧ k ∉ (w.heap.size + 1 + 1) :: J :: (F ++ X) := fun k hk => by
    refine ⟨own_lt ho k hk, fun hm => ?_⟩
    have h1 := hge k hk
    rcases List.mem_cons.1 hm with rfl | hm
    · omega
    rcases List.mem_cons.1 hm with rfl | hm
    · have := hfb.1; omega
    rcases List.mem_append.1 hm with hm | hm
    · have := hfb.2.2 k hm; omega
    · have := hX k hm; omega
  have hm4 : Md w4 ((w.heap.size + 1 + 1) :: J :: (F ++ X)) (.slice aa area.length ac) (.slice a9 (ts.length + 1) c9) area (recs ++ [x]) := by
    refine ⟨⟨hm.1.1.pure hw0, hup _ _ hm.1.2⟩, tsx ++ [(.slice xa x.length xc, x)], by simp [htsx], ?_, fun _ => hnew, ?_⟩
    · have := rd_of_owns ho
      rw [List.length_append, hxl, List.map_append]
      exact this
    · intro t ht
      rcases List.mem_append.1 ht with ht | ht
      · exact ⟨(hall t ht).1.pure hw0, hup _ _ (hall t ht).2⟩
      · simp only [List.mem_cons, List.not_mem_nil, or_false] at ht
        subst ht
        exact ⟨hx.pure hw0, hup _ _ hvb⟩
  have hm6 := hm4.ex (G2 := (w.heap.size + 1 + 1) :: J :: (F6 ++ X)) hx6 (fun k hk => .inl (by rcases List.mem_cons.1 hk with rfl | hk <;> simp [*])) (fun k hk => by
    rcases List.mem_cons.1 hk with rfl | hk
    · exact .inl (by simp)
    · exact hsub k hk)
  have hm7 := hm6.ex (G2 := J :: (F6 ++ X)) hx7 (fun k hk => .inl (by simp at hk; simp [hk])) (fun k hk => .inl (List.mem_cons_of_mem _ hk))
  exact ⟨_, _, F6, rfl, hd6.ex hx7 (fun k hk hm => by simp at hm; subst hm; exact hRn hk), hsw, hJ6, hj6.pure hx7 (by simp; have := hfb.1; omega), hm7, hxf⟩

set_option maxRecDepth 100000 in
set_option maxHeartbeats 8000000 in
theorem then_app (w : World) (X : List Nat) (J D L A Da : Nat) (F : List Nat) (h' : Hd) (lost : Bool) (p : Nat × Dv) (av rv v : Value) (wh nn bt : Int) (area x : List UInt8) (recs : List (List UInt8)) (hwh : -9223372036854775808 ≤ wh ∧ wh ≤ 9223372036854775807) (hx : RdB w v x) (hvb : Sep w x.length v (J :: (F ++ X))) (hm : Md w (J :: (F ++ X)) av rv area recs) (hfb : J < w.heap.size ∧ J ∉ F ∧ ∀ k ∈ F, k < w.heap.size)
    (hcall : ∀ W, Ex [] w W → Calls Tryz.prog 22 #[.pointer (some ⟨J, 0, none⟩), v] W (Told W J D L A Da F h' lost p)) (hXX : ∀ k ∈ X, k < w.heap.size) (hrl : recs.length ≤ 1000000) (hpick : ¬ pick wh 9 = 2) :
    Calls Tryz.prog 15 #[.agg #[av, rv], .pointer (some ⟨J, 0, none⟩), .agg #[.int .i64 wh, .int .i64 nn, .int .i64 bt, v]] w (Thend w X J D L A Da F h' lost p area (recs ++ [x])) := by
  have HCALL := Lib.hid hcall
  have HX := Lib.hid hx
  have HVB := Lib.hid hvb
  have HM := Lib.hid hm
  have HFB := Lib.hid hfb
  have hb0 := block_alloc (o := (.cells #[.slice none 0 0, .slice none 0 0] 40)) (block_alloc (o := (.cells #[.int .i64 wh, .int .i64 nn, .int .i64 bt, v] 42)) (heap_alloc_new w (.cells #[av, rv] 40)))
  have hb1 := block_alloc (o := (.cells #[.slice none 0 0, .slice none 0 0] 40)) (heap_alloc_new (w.alloc (.cells #[av, rv] 40)) (.cells #[.int .i64 wh, .int .i64 nn, .int .i64 bt, v] 42))
  have hb2 := heap_alloc_new ((w.alloc (.cells #[av, rv] 40)).alloc (.cells #[.int .i64 wh, .int .i64 nn, .int .i64 bt, v] 42)) (.cells #[.slice none 0 0, .slice none 0 0] 40)
  rw [show (w.alloc (.cells #[av, rv] 40)).heap.size = w.heap.size + 1 from by simp] at hb1
  rw [show ((w.alloc (.cells #[av, rv] 40)).alloc (.cells #[.int .i64 wh, .int .i64 nn, .int .i64 bt, v] 42)).heap.size = w.heap.size + 1 + 1 from by simp] at hb2
  have hx0 : Ex [] w (((w.alloc (.cells #[av, rv] 40)).alloc (.cells #[.int .i64 wh, .int .i64 nn, .int .i64 bt, v] 42)).alloc (.cells #[.slice none 0 0, .slice none 0 0] 40)) := (((Ex.refl [] w).alloc _).alloc _).alloc _
  have H0 := Lib.hid (And.intro hx0 (And.intro hb0 (And.intro hb1 hb2)))
  have hpk : (pick wh 9 == 2) = false := by simpa using hpick
  obtain ⟨_, xa, xc, rfl, _, _, _, _⟩ := hx
  have hm' := hm
  obtain ⟨⟨⟨_, aa, ac, rfl, _⟩, _⟩, ts, hts, ⟨_, ra, rc, rfl, _⟩, _⟩ := hm'
  have htl : ts.length = recs.length := by rw [← hts]; simp
  have htl0 : ts.length ≤ 1000000 := by omega
  have HXX := Lib.hid hXX
  have HTS := Lib.hid (And.intro hts htl)
  clear hcall hvb hb0 hb1 hb2 hx0 hm hfb hpick hts htl hXX
  go_enter Tryz.func15, Tryz.ntmps15
  have q0 : (((w.alloc (.cells #[(.slice aa area.length ac), (.slice ra ts.length rc)] 40)).alloc (.cells #[.int .i64 wh, .int .i64 nn, .int .i64 bt, (.slice xa x.length xc)] 42)).alloc (.cells #[.slice none 0 0, .slice none 0 0] 40)).cell? ⟨w.heap.size + 1, 0, none⟩ = some (.int .i64 wh) := (cell_of_block H0.out.2.2.1).trans rfl
  have q3 : (((w.alloc (.cells #[(.slice aa area.length ac), (.slice ra ts.length rc)] 40)).alloc (.cells #[.int .i64 wh, .int .i64 nn, .int .i64 bt, (.slice xa x.length xc)] 42)).alloc (.cells #[.slice none 0 0, .slice none 0 0] 40)).cell? ⟨w.heap.size + 1, 3, none⟩ = some (.slice xa x.length xc) := (cell_of_block H0.out.2.2.1).trans rfl
  have r0 : (((w.alloc (.cells #[(.slice aa area.length ac), (.slice ra ts.length rc)] 40)).alloc (.cells #[.int .i64 wh, .int .i64 nn, .int .i64 bt, (.slice xa x.length xc)] 42)).alloc (.cells #[.slice none 0 0, .slice none 0 0] 40)).cell? ⟨w.heap.size, 0, none⟩ = some (.slice aa area.length ac) := (cell_of_block H0.out.2.1).trans rfl
  have r1 : (((w.alloc (.cells #[(.slice aa area.length ac), (.slice ra ts.length rc)] 40)).alloc (.cells #[.int .i64 wh, .int .i64 nn, .int .i64 bt, (.slice xa x.length xc)] 42)).alloc (.cells #[.slice none 0 0, .slice none 0 0] 40)).cell? ⟨w.heap.size, 1, none⟩ = some (.slice ra ts.length rc) := (cell_of_block H0.out.2.1).trans rfl
  go_wp2_with fail
  refine (Pick_any _ wh hwh).mono ?_
  rintro e w' ⟨rfl, rfl⟩
  go_wp2_with fail
  generalize (((w.alloc (.cells #[(.slice aa area.length ac), (.slice ra ts.length rc)] 40)).alloc (.cells #[.int .i64 wh, .int .i64 nn, .int .i64 bt, (.slice xa x.length xc)] 42)).alloc (.cells #[.slice none 0 0, .slice none 0 0] 40)) = W0 at *
  obtain ⟨_, tsx, htsx, hrdx, hrvb, hallx⟩ := HM.out
  have hxl : tsx.length = ts.length := by rw [HTS.out.2, ← htsx]; simp
  have hrdx' : Rd w 1 (.slice ra ts.length rc) ts.length (tsx.map Prod.fst) := by rw [← hxl]; rw [← hxl] at hrdx; exact hrdx
  have hone : ∀ u ∈ tsx.map Prod.fst, u.oneCell' = true := by
    intro u hu
    obtain ⟨t, ht, rfl⟩ := List.mem_map.1 hu
    obtain ⟨_, a, c, hv, _⟩ := (hallx t ht).1
    rw [hv]; rfl
  have HR := Lib.hid (And.intro hrdx' (And.intro hone (And.intro htsx (And.intro hxl hallx))))
  clear htsx hrdx hrvb hallx hxl hrdx' hone q0
  refine wp_region_L 15 (fun w' => w'.cell? ⟨w.heap.size, 0, none⟩ = some (.slice aa area.length ac) ∧ w'.cell? ⟨w.heap.size, 1, none⟩ = some (.slice ra ts.length rc) ∧ w'.cell? ⟨w.heap.size + 1, 3, none⟩ = some (.slice xa x.length xc)) (by kernel_rfl) ?_
  have hxd : Ex [] W0 W0.drew := (Ex.refl [] W0).drew
  have HWD : Hid (Ex [] W0 W0.drew ∧ W0.drew.heap.size = W0.heap.size) := ⟨hxd, rfl⟩
  have hT : W0.drew.cell? ⟨w.heap.size, 0, none⟩ = some (.slice aa area.length ac) ∧ W0.drew.cell? ⟨w.heap.size, 1, none⟩ = some (.slice ra ts.length rc) ∧ W0.drew.cell? ⟨w.heap.size + 1, 3, none⟩ = some (.slice xa x.length xc) := ⟨r0, r1, q3⟩
  have HT0 := Lib.hid (And.intro r0 (And.intro r1 q3))
  clear hxd r0 r1 q3
  generalize W0.drew = wd at *
  refine wpL_take (i := 0) (oi := ⟨some 19, _, _, _, _, _⟩) (v := (.pointer (some ⟨w.heap.size, 0, none⟩))) rfl (by kernel_rfl) (by kernel_rfl) (by kernel_rfl) (by kernel_rfl) (by decide) (fun _ _ _ h => h) (Or.inl ⟨by rfl, by intro w hSw; go_simp⟩) hT ?_
  try simp only [Act.put, List.setIfInBounds_toArray, List.set_cons_zero, List.set_cons_succ]
  refine wpL_take (i := 1) (oi := ⟨some 20, _, _, _, _, _⟩) (v := (.slice aa area.length ac)) rfl (by kernel_rfl) (by kernel_rfl) (by kernel_rfl) (by kernel_rfl) (by decide) (fun _ _ _ h => h) (Or.inl ⟨by rfl, by intro w hSw; go_simp⟩) hT ?_
  try simp only [Act.put, List.setIfInBounds_toArray, List.set_cons_zero, List.set_cons_succ]
  refine wpL_take (i := 3) (oi := ⟨some 22, _, _, _, _, _⟩) (v := (.pointer (some ⟨w.heap.size, 1, none⟩))) rfl (by kernel_rfl) (by kernel_rfl) (by kernel_rfl) (by kernel_rfl) (by decide) (fun _ _ _ h => h) (Or.inl ⟨by rfl, by intro w hSw; go_simp⟩) hT ?_
  try simp only [Act.put, List.setIfInBounds_toArray, List.set_cons_zero, List.set_cons_succ]
  refine wpL_take (i := 4) (oi := ⟨some 23, _, _, _, _, _⟩) (v := (.slice ra ts.length rc)) rfl (by kernel_rfl) (by kernel_rfl) (by kernel_rfl) (by kernel_rfl) (by decide) (fun _ _ _ h => h) (Or.inl ⟨by rfl, by intro w hSw; go_simp⟩) hT ?_
  try simp only [Act.put, List.setIfInBounds_toArray, List.set_cons_zero, List.set_cons_succ]
  refine wpL_take (i := 6) (oi := ⟨some 25, _, _, _, _, _⟩) (v := (.pointer (some ⟨w.heap.size + 1, 3, none⟩))) rfl (by kernel_rfl) (by kernel_rfl) (by kernel_rfl) (by kernel_rfl) (by decide) (fun _ _ _ h => h) (Or.inl ⟨by rfl, by intro w hSw; go_simp⟩) hT ?_
  try simp only [Act.put, List.setIfInBounds_toArray, List.set_cons_zero, List.set_cons_succ]
  refine wpL_take (i := 7) (oi := ⟨some 26, _, _, _, _, _⟩) (v := (.slice xa x.length xc)) rfl (by kernel_rfl) (by kernel_rfl) (by kernel_rfl) (by kernel_rfl) (by decide) (fun _ _ _ h => h) (Or.inl ⟨by rfl, by intro w hSw; go_simp⟩) hT ?_
  try simp only [Act.put, List.setIfInBounds_toArray, List.set_cons_zero, List.set_cons_succ]
  refine wpL_take (i := 11) (oi := ⟨some 30, _, _, _, _, _⟩) (v := (.pointer (some ⟨J, 0, none⟩))) rfl (by kernel_rfl) (by kernel_rfl) (by kernel_rfl) (by kernel_rfl) (by decide) (fun _ _ _ h => h) (Or.inl ⟨by rfl, by intro w hSw; go_simp⟩) hT ?_
  try simp only [Act.put, List.setIfInBounds_toArray, List.set_cons_zero, List.set_cons_succ]
  refine wpL_take (i := 12) (oi := ⟨some 31, _, _, _, _, _⟩) (v := (.pointer (some ⟨w.heap.size + 1, 3, none⟩))) rfl (by kernel_rfl) (by kernel_rfl) (by kernel_rfl) (by kernel_rfl) (by decide) (fun _ _ _ h => h) (Or.inl ⟨by rfl, by intro w hSw; go_simp⟩) hT ?_
  try simp only [Act.put, List.setIfInBounds_toArray, List.set_cons_zero, List.set_cons_succ]
  refine wpL_take (i := 13) (oi := ⟨some 32, _, _, _, _, _⟩) (v := (.slice xa x.length xc)) rfl (by kernel_rfl) (by kernel_rfl) (by kernel_rfl) (by kernel_rfl) (by decide) (fun _ _ _ h => h) (Or.inl ⟨by rfl, by intro w hSw; go_simp⟩) hT ?_
  try simp only [Act.put, List.setIfInBounds_toArray, List.set_cons_zero, List.set_cons_succ]
  refine wpL_ready (rs := [2, 8]) (by kernel_rfl) (by simp) ?_
  refine AllNext.cons (o := _) rfl (fun K hK => ?_) (AllNext.cons (o := _) rfl (fun K hK => ?_) AllNext.nil)
  · go_simp
    have hx1 := (HWD.out.1).alloc (.cells #[] 37)
    have hz1 : (wd.alloc (.cells #[] 37)).heap.size = wd.heap.size + 1 := by simp
    have he1 := own_new wd #[] 37 1 0 rfl (by decide)
    have hT1 := And.intro (Ex.cell (p := ⟨w.heap.size, 0, none⟩) (hx1) (by simp) HT0.out.1) (And.intro (Ex.cell (p := ⟨w.heap.size, 1, none⟩) (hx1) (by simp) HT0.out.2.1) (Ex.cell (p := ⟨w.heap.size + 1, 3, none⟩) (hx1) (by simp) HT0.out.2.2))
    generalize wd.alloc (.cells #[] 37) = u1 at *
    have HX1 := Lib.hid hx1
    have HZ1 := Lib.hid hz1
    have HE1 := Lib.hid he1
    refine hK.out _ _ (fun _ => hT1) ?_
    try simp only [Act.put, List.setIfInBounds_toArray, List.set_cons_zero, List.set_cons_succ]
    clear hK K hx1 hz1 he1
    refine wpL_ready (rs := [5, 8]) (by kernel_rfl) (by simp) ?_
    refine AllNext.cons (o := _) rfl (fun K hK => ?_) (AllNext.cons (o := _) rfl (fun K hK => ?_) AllNext.nil)
    · skip
      refine step_app u1 (by rfl) _ _ _ (by rfl) Tryz.underlying38 info_ub rfl (by decide) (.slice (some ⟨wd.heap.size, 0, none⟩) 0 0) 0 [] (by rfl) HE1.out (.slice ra ts.length rc) ts.length (tsx.map Prod.fst) (by rfl) (HR.out.1.pure (H0.out.1.pure (HX1.out))) HR.out.2.1 (by unfold maxLen; omega) (by omega) ?_
      intro a5 c5 u2 ho5 hg5 hs5 hn5
      simp only [Nat.zero_add, List.nil_append] at ho5 hs5 ⊢
      have hx2 := (HX1.out).grown hg5 (fun k hk => .inr (by simp [Value.ownBlock] at hk; have := (HWD.out.1).size; omega))
      have hge5 : ∀ k ∈ bk (.slice a5 ts.length c5), W0.heap.size ≤ k := fun k hk => by
        rcases hs5 k hk with h | h
        · simp [bk, Value.ownBlock] at h; have := (HWD.out.1).size; omega
        · rw [h]; exact (HX1.out).size
      have hT2 := And.intro (Ex.cell (p := ⟨w.heap.size, 0, none⟩) (hx2) (by simp) HT0.out.1) (And.intro (Ex.cell (p := ⟨w.heap.size, 1, none⟩) (hx2) (by simp) HT0.out.2.1) (Ex.cell (p := ⟨w.heap.size + 1, 3, none⟩) (hx2) (by simp) HT0.out.2.2))
      have HX2 := Lib.hid hx2
      have H5 := Lib.hid (And.intro ho5 hge5)
      refine hK.out _ _ (fun _ => hT2) ?_
      try simp only [Act.put, List.setIfInBounds_toArray, List.set_cons_zero, List.set_cons_succ]
      clear hK K hx2 ho5 hg5 hs5 hn5 hge5
      refine wpL_ready (rs := [8]) (by kernel_rfl) (by simp) ?_
      refine AllNext.cons (o := _) rfl (fun K hK => ?_) AllNext.nil
      go_simp
      have hA5 := (Ex.refl [] u2).alloc (.cells #[(.slice xa x.length xc)] 37)
      have hx3 := (HX2.out).alloc (.cells #[(.slice xa x.length xc)] 37)
      have hz3 : (u2.alloc (.cells #[(.slice xa x.length xc)] 37)).heap.size = u2.heap.size + 1 := by simp
      have hl3 := heap_alloc_new u2 (.cells #[(.slice xa x.length xc)] 37)
      have heb3 := HE1.out.alloc (.cells #[(.slice xa x.length xc)] 37)
      have hT3 := And.intro (Ex.cell (p := ⟨w.heap.size, 0, none⟩) (hx3) (by simp) HT0.out.1) (And.intro (Ex.cell (p := ⟨w.heap.size, 1, none⟩) (hx3) (by simp) HT0.out.2.1) (Ex.cell (p := ⟨w.heap.size + 1, 3, none⟩) (hx3) (by simp) HT0.out.2.2))
      have HA5 := Lib.hid hA5
      clear hA5
      generalize u2.alloc (.cells #[(.slice xa x.length xc)] 37) = u3 at *
      have HX3 := Lib.hid hx3
      have HZ3 := Lib.hid hz3
      have HB3 := Lib.hid hl3
      have HE3 := Lib.hid heb3
      refine hK.out _ _ (fun _ => hT3) ?_
      try simp only [Act.put, List.setIfInBounds_toArray, List.set_cons_zero, List.set_cons_succ]
      clear hK K hx3 hz3 hl3 heb3
      refine wpL_ready (rs := [9]) (by kernel_rfl) (by simp) ?_
      refine AllNext.cons (o := _) rfl (fun K hK => ?_) AllNext.nil
      refine step_app u3 (by rfl) _ _ _ (by rfl) Tryz.underlying38 info_ub rfl (by decide) (.slice a5 ts.length c5) ts.length _ (by rfl) (own_pure H5.out.1 HA5.out) (.slice (some ⟨u2.heap.size, 0, none⟩) 1 1) 1 [(.slice xa x.length xc)] (by rfl) (rd_one HB3.out) (by intro u hu; simp at hu; subst hu; rfl) (by unfold maxLen; omega) (by omega) ?_
      intro a9 c9 w4 ho9 hg9 hs9 hn9
      have hx9 := (HX3.out).grown hg9 (fun k hk => .inr (H5.out.2 k (by simpa [bk] using hk)))
      have hge9 : ∀ k ∈ bk (.slice a9 (ts.length + 1) c9), W0.heap.size ≤ k := fun k hk => by
        rcases hs9 k hk with h | h
        · exact H5.out.2 k h
        · rw [h]; exact (HX3.out).size
      have hT9 := And.intro (Ex.cell (p := ⟨w.heap.size, 0, none⟩) (hx9) (by simp) HT0.out.1) (And.intro (Ex.cell (p := ⟨w.heap.size, 1, none⟩) (hx9) (by simp) HT0.out.2.1) (Ex.cell (p := ⟨w.heap.size + 1, 3, none⟩) (hx9) (by simp) HT0.out.2.2))
      have H9 := Lib.hid (And.intro ho9 (And.intro hx9 hge9))
      refine hK.out _ _ (fun _ => hT9) ?_
      try simp only [Act.put, List.setIfInBounds_toArray, List.set_cons_zero, List.set_cons_succ]
      clear hK K ho9 hg9 hs9 hn9 hge9 hx9
      refine wpL_take (i := 10) (oi := ⟨some 29, _, _, _, _, _⟩) (v := (.agg #[(.slice aa area.length ac), .slice a9 (ts.length + 1) c9])) rfl (by kernel_rfl) (by kernel_rfl) (by kernel_rfl) (by kernel_rfl) (by decide) (fun _ _ _ h => h) (Or.inl ⟨by rfl, by intro w hSw; go_simp⟩) hT9 ?_
      try simp only [Act.put, List.setIfInBounds_toArray, List.set_cons_zero, List.set_cons_succ]
      refine wpL_ready (rs := [14]) (by kernel_rfl) (by simp) ?_
      refine AllNext.cons (o := _) rfl (fun K hK => ?_) AllNext.nil
      go_simp
      refine (HCALL.out w4 (H0.out.1.pure H9.out.2.1)).mono ?_
      rintro e w6 ⟨rfl, ⟨F6, hd6, hs6, hJ6⟩, hj6, hx6⟩
      have hni : ∀ i, w.heap.size ≤ i → i ∉ J :: F := fun i hi hm => by
        rcases List.mem_cons.1 hm with rfl | hm
        · have := HFB.out.1; omega
        · have := HFB.out.2.2 i hm; omega
      have hT6 := And.intro (hx6.cell (p := ⟨w.heap.size, 0, none⟩) (hni _ (Nat.le_refl _)) hT9.1) (And.intro (hx6.cell (p := ⟨w.heap.size, 1, none⟩) (hni _ (Nat.le_refl _)) hT9.2.1) (hx6.cell (p := ⟨w.heap.size + 1, 3, none⟩) (hni _ (by show w.heap.size ≤ w.heap.size + 1; omega)) hT9.2.2))
      have hR6 := hx6.obj (H9.out.2.1.obj H0.out.2.2.2 (by simp)) (hni _ (by omega))
      have s0 : w6.cell? ⟨w.heap.size + 1 + 1, 0, none⟩ = some (.slice none 0 0) := by rw [cell_of_block hR6]; rfl
      have s1 : w6.cell? ⟨w.heap.size + 1 + 1, 1, none⟩ = some (.slice none 0 0) := by rw [cell_of_block hR6]; rfl
      have z0 : w6.frozen? ⟨w.heap.size + 1 + 1, 0, none⟩ = false := free_of_block hR6
      have z1 : w6.frozen? ⟨w.heap.size + 1 + 1, 1, none⟩ = false := free_of_block hR6
      have H6 := Lib.hid (And.intro hd6 (And.intro hs6 (And.intro hJ6 (And.intro hj6 hx6))))
      clear hd6 hs6 hJ6 hj6 hx6 hR6 hni
      refine hK.out _ _ (fun _ => hT6) ?_
      try simp only [Act.put, List.setIfInBounds_toArray, List.set_cons_zero, List.set_cons_succ]
      clear hK K
      refine wpL_ready (rs := [15]) (by kernel_rfl) (by simp) ?_
      refine AllNext.cons (o := _) rfl (fun K hK => ?_) AllNext.nil
      go_simp
      have e0 := set2 (W := w6) (a' := (.slice aa area.length ac)) (b' := .slice a9 (ts.length + 1) c9) s0 s1
      refine hK.out _ _ (fun h => absurd h (by decide)) ?_
      clear hK K
      refine wpL_ready (rs := [16]) (by kernel_rfl) (by simp) ?_
      refine AllNext.cons (o := _) rfl (fun K hK => ?_) AllNext.nil
      go_simp
      refine hK.out _ _ (fun h => absurd h (by decide)) ?_
      clear hK K
      refine wpL_done (by kernel_rfl) ?_ _
      go_wp2_with fail
      refine bodyPost_ret (v := .tuple #[.agg #[(.slice aa area.length ac), .slice a9 (ts.length + 1) c9], .int .i64 p.1]) (by simp [results, Tryz.results15, go_sem, e0]) rfl ?_
      obtain ⟨hd6, hs6, hJ6, hj6, hx6⟩ := H6.out
      exact then_app_end HFB.out H0.out HX.out HXX.out HVB.out HM.out HR.out.2.2.1 HR.out.2.2.2.1 HR.out.2.2.2.2 H9.out.1 H9.out.2.1 H9.out.2.2 hd6 hs6 hJ6 hj6 hx6
    · go_simp
      have hx2 := (HX1.out).alloc (.cells #[(.slice xa x.length xc)] 37)
      have hz2 : (u1.alloc (.cells #[(.slice xa x.length xc)] 37)).heap.size = u1.heap.size + 1 := by simp
      have hl2 := heap_alloc_new u1 (.cells #[(.slice xa x.length xc)] 37)
      have heb2 := HE1.out.alloc (.cells #[(.slice xa x.length xc)] 37)
      have hT2 := And.intro (Ex.cell (p := ⟨w.heap.size, 0, none⟩) (hx2) (by simp) HT0.out.1) (And.intro (Ex.cell (p := ⟨w.heap.size, 1, none⟩) (hx2) (by simp) HT0.out.2.1) (Ex.cell (p := ⟨w.heap.size + 1, 3, none⟩) (hx2) (by simp) HT0.out.2.2))
      generalize u1.alloc (.cells #[(.slice xa x.length xc)] 37) = u2 at *
      have HX2 := Lib.hid hx2
      have HZ2 := Lib.hid hz2
      have HB2 := Lib.hid hl2
      have HE2 := Lib.hid heb2
      refine hK.out _ _ (fun _ => hT2) ?_
      try simp only [Act.put, List.setIfInBounds_toArray, List.set_cons_zero, List.set_cons_succ]
      clear hK K hx2 hz2 hl2 heb2
      refine wpL_ready (rs := [5]) (by kernel_rfl) (by simp) ?_
      refine AllNext.cons (o := _) rfl (fun K hK => ?_) AllNext.nil
      refine step_app u2 (by rfl) _ _ _ (by rfl) Tryz.underlying38 info_ub rfl (by decide) (.slice (some ⟨wd.heap.size, 0, none⟩) 0 0) 0 [] (by rfl) HE2.out (.slice ra ts.length rc) ts.length (tsx.map Prod.fst) (by rfl) (HR.out.1.pure (H0.out.1.pure (HX2.out))) HR.out.2.1 (by unfold maxLen; omega) (by omega) ?_
      intro a5 c5 u3 ho5 hg5 hs5 hn5
      simp only [Nat.zero_add, List.nil_append] at ho5 hs5 ⊢
      have hx3 := (HX2.out).grown hg5 (fun k hk => .inr (by simp [Value.ownBlock] at hk; have := (HWD.out.1).size; omega))
      have hge5 : ∀ k ∈ bk (.slice a5 ts.length c5), W0.heap.size ≤ k := fun k hk => by
        rcases hs5 k hk with h | h
        · simp [bk, Value.ownBlock] at h; have := (HWD.out.1).size; omega
        · rw [h]; exact (HX2.out).size
      have hlb3 := block_grown HB2.out hg5 (by simp [Value.ownBlock]; have hh := lt_of_block HB2.out; have := HZ1.out; have := HZ2.out; omega)
      have HB3 := Lib.hid hlb3
      have hT3 := And.intro (Ex.cell (p := ⟨w.heap.size, 0, none⟩) (hx3) (by simp) HT0.out.1) (And.intro (Ex.cell (p := ⟨w.heap.size, 1, none⟩) (hx3) (by simp) HT0.out.2.1) (Ex.cell (p := ⟨w.heap.size + 1, 3, none⟩) (hx3) (by simp) HT0.out.2.2))
      have HX3 := Lib.hid hx3
      have H5 := Lib.hid (And.intro ho5 hge5)
      refine hK.out _ _ (fun _ => hT3) ?_
      try simp only [Act.put, List.setIfInBounds_toArray, List.set_cons_zero, List.set_cons_succ]
      clear hK K hx3 ho5 hg5 hs5 hn5 hge5 hlb3
      refine wpL_ready (rs := [9]) (by kernel_rfl) (by simp) ?_
      refine AllNext.cons (o := _) rfl (fun K hK => ?_) AllNext.nil
      refine step_app u3 (by rfl) _ _ _ (by rfl) Tryz.underlying38 info_ub rfl (by decide) (.slice a5 ts.length c5) ts.length _ (by rfl) (H5.out.1) (.slice (some ⟨u1.heap.size, 0, none⟩) 1 1) 1 [(.slice xa x.length xc)] (by rfl) (rd_one HB3.out) (by intro u hu; simp at hu; subst hu; rfl) (by unfold maxLen; omega) (by omega) ?_
      intro a9 c9 w4 ho9 hg9 hs9 hn9
      have hx9 := (HX3.out).grown hg9 (fun k hk => .inr (H5.out.2 k (by simpa [bk] using hk)))
      have hge9 : ∀ k ∈ bk (.slice a9 (ts.length + 1) c9), W0.heap.size ≤ k := fun k hk => by
        rcases hs9 k hk with h | h
        · exact H5.out.2 k h
        · rw [h]; exact (HX3.out).size
      have hT9 := And.intro (Ex.cell (p := ⟨w.heap.size, 0, none⟩) (hx9) (by simp) HT0.out.1) (And.intro (Ex.cell (p := ⟨w.heap.size, 1, none⟩) (hx9) (by simp) HT0.out.2.1) (Ex.cell (p := ⟨w.heap.size + 1, 3, none⟩) (hx9) (by simp) HT0.out.2.2))
      have H9 := Lib.hid (And.intro ho9 (And.intro hx9 hge9))
      refine hK.out _ _ (fun _ => hT9) ?_
      try simp only [Act.put, List.setIfInBounds_toArray, List.set_cons_zero, List.set_cons_succ]
      clear hK K ho9 hg9 hs9 hn9 hge9 hx9
      refine wpL_take (i := 10) (oi := ⟨some 29, _, _, _, _, _⟩) (v := (.agg #[(.slice aa area.length ac), .slice a9 (ts.length + 1) c9])) rfl (by kernel_rfl) (by kernel_rfl) (by kernel_rfl) (by kernel_rfl) (by decide) (fun _ _ _ h => h) (Or.inl ⟨by rfl, by intro w hSw; go_simp⟩) hT9 ?_
      try simp only [Act.put, List.setIfInBounds_toArray, List.set_cons_zero, List.set_cons_succ]
      refine wpL_ready (rs := [14]) (by kernel_rfl) (by simp) ?_
      refine AllNext.cons (o := _) rfl (fun K hK => ?_) AllNext.nil
      go_simp
      refine (HCALL.out w4 (H0.out.1.pure H9.out.2.1)).mono ?_
      rintro e w6 ⟨rfl, ⟨F6, hd6, hs6, hJ6⟩, hj6, hx6⟩
      have hni : ∀ i, w.heap.size ≤ i → i ∉ J :: F := fun i hi hm => by
        rcases List.mem_cons.1 hm with rfl | hm
        · have := HFB.out.1; omega
        · have := HFB.out.2.2 i hm; omega
      have hT6 := And.intro (hx6.cell (p := ⟨w.heap.size, 0, none⟩) (hni _ (Nat.le_refl _)) hT9.1) (And.intro (hx6.cell (p := ⟨w.heap.size, 1, none⟩) (hni _ (Nat.le_refl _)) hT9.2.1) (hx6.cell (p := ⟨w.heap.size + 1, 3, none⟩) (hni _ (by show w.heap.size ≤ w.heap.size + 1; omega)) hT9.2.2))
      have hR6 := hx6.obj (H9.out.2.1.obj H0.out.2.2.2 (by simp)) (hni _ (by omega))
      have s0 : w6.cell? ⟨w.heap.size + 1 + 1, 0, none⟩ = some (.slice none 0 0) := by rw [cell_of_block hR6]; rfl
      have s1 : w6.cell? ⟨w.heap.size + 1 + 1, 1, none⟩ = some (.slice none 0 0) := by rw [cell_of_block hR6]; rfl
      have z0 : w6.frozen? ⟨w.heap.size + 1 + 1, 0, none⟩ = false := free_of_block hR6
      have z1 : w6.frozen? ⟨w.heap.size + 1 + 1, 1, none⟩ = false := free_of_block hR6
      have H6 := Lib.hid (And.intro hd6 (And.intro hs6 (And.intro hJ6 (And.intro hj6 hx6))))
      clear hd6 hs6 hJ6 hj6 hx6 hR6 hni
      refine hK.out _ _ (fun _ => hT6) ?_
      try simp only [Act.put, List.setIfInBounds_toArray, List.set_cons_zero, List.set_cons_succ]
      clear hK K
      refine wpL_ready (rs := [15]) (by kernel_rfl) (by simp) ?_
      refine AllNext.cons (o := _) rfl (fun K hK => ?_) AllNext.nil
      go_simp
      have e0 := set2 (W := w6) (a' := (.slice aa area.length ac)) (b' := .slice a9 (ts.length + 1) c9) s0 s1
      refine hK.out _ _ (fun h => absurd h (by decide)) ?_
      clear hK K
      refine wpL_ready (rs := [16]) (by kernel_rfl) (by simp) ?_
      refine AllNext.cons (o := _) rfl (fun K hK => ?_) AllNext.nil
      go_simp
      refine hK.out _ _ (fun h => absurd h (by decide)) ?_
      clear hK K
      refine wpL_done (by kernel_rfl) ?_ _
      go_wp2_with fail
      refine bodyPost_ret (v := .tuple #[.agg #[(.slice aa area.length ac), .slice a9 (ts.length + 1) c9], .int .i64 p.1]) (by simp [results, Tryz.results15, go_sem, e0]) rfl ?_
      obtain ⟨hd6, hs6, hJ6, hj6, hx6⟩ := H6.out
      exact then_app_end HFB.out H0.out HX.out HXX.out HVB.out HM.out HR.out.2.2.1 HR.out.2.2.2.1 HR.out.2.2.2.2 H9.out.1 H9.out.2.1 H9.out.2.2 hd6 hs6 hJ6 hj6 hx6
  · go_simp
    have hx1 := (HWD.out.1).alloc (.cells #[(.slice xa x.length xc)] 37)
    have hz1 : (wd.alloc (.cells #[(.slice xa x.length xc)] 37)).heap.size = wd.heap.size + 1 := by simp
    have hl1 := heap_alloc_new wd (.cells #[(.slice xa x.length xc)] 37)
    have hT1 := And.intro (Ex.cell (p := ⟨w.heap.size, 0, none⟩) (hx1) (by simp) HT0.out.1) (And.intro (Ex.cell (p := ⟨w.heap.size, 1, none⟩) (hx1) (by simp) HT0.out.2.1) (Ex.cell (p := ⟨w.heap.size + 1, 3, none⟩) (hx1) (by simp) HT0.out.2.2))
    generalize wd.alloc (.cells #[(.slice xa x.length xc)] 37) = u1 at *
    have HX1 := Lib.hid hx1
    have HZ1 := Lib.hid hz1
    have HB1 := Lib.hid hl1
    refine hK.out _ _ (fun _ => hT1) ?_
    try simp only [Act.put, List.setIfInBounds_toArray, List.set_cons_zero, List.set_cons_succ]
    clear hK K hx1 hz1 hl1
    refine wpL_ready (rs := [2]) (by kernel_rfl) (by simp) ?_
    refine AllNext.cons (o := _) rfl (fun K hK => ?_) AllNext.nil
    go_simp
    have hx2 := (HX1.out).alloc (.cells #[] 37)
    have hz2 : (u1.alloc (.cells #[] 37)).heap.size = u1.heap.size + 1 := by simp
    have he2 := own_new u1 #[] 37 1 0 rfl (by decide)
    have hlb2 := block_alloc (o := (.cells #[] 37)) HB1.out
    have hT2 := And.intro (Ex.cell (p := ⟨w.heap.size, 0, none⟩) (hx2) (by simp) HT0.out.1) (And.intro (Ex.cell (p := ⟨w.heap.size, 1, none⟩) (hx2) (by simp) HT0.out.2.1) (Ex.cell (p := ⟨w.heap.size + 1, 3, none⟩) (hx2) (by simp) HT0.out.2.2))
    generalize u1.alloc (.cells #[] 37) = u2 at *
    have HX2 := Lib.hid hx2
    have HZ2 := Lib.hid hz2
    have HE2 := Lib.hid he2
    have HB2 := Lib.hid hlb2
    refine hK.out _ _ (fun _ => hT2) ?_
    try simp only [Act.put, List.setIfInBounds_toArray, List.set_cons_zero, List.set_cons_succ]
    clear hK K hx2 hz2 he2 hlb2
    refine wpL_ready (rs := [5]) (by kernel_rfl) (by simp) ?_
    refine AllNext.cons (o := _) rfl (fun K hK => ?_) AllNext.nil
    refine step_app u2 (by rfl) _ _ _ (by rfl) Tryz.underlying38 info_ub rfl (by decide) (.slice (some ⟨u1.heap.size, 0, none⟩) 0 0) 0 [] (by rfl) HE2.out (.slice ra ts.length rc) ts.length (tsx.map Prod.fst) (by rfl) (HR.out.1.pure (H0.out.1.pure (HX2.out))) HR.out.2.1 (by unfold maxLen; omega) (by omega) ?_
    intro a5 c5 u3 ho5 hg5 hs5 hn5
    simp only [Nat.zero_add, List.nil_append] at ho5 hs5 ⊢
    have hx3 := (HX2.out).grown hg5 (fun k hk => .inr (by simp [Value.ownBlock] at hk; have := (HX1.out).size; omega))
    have hge5 : ∀ k ∈ bk (.slice a5 ts.length c5), W0.heap.size ≤ k := fun k hk => by
      rcases hs5 k hk with h | h
      · simp [bk, Value.ownBlock] at h; have := (HX1.out).size; omega
      · rw [h]; exact (HX2.out).size
    have hlb3 := block_grown HB2.out hg5 (by simp [Value.ownBlock]; have hh := lt_of_block HB2.out; have := HZ1.out; have := HZ2.out; omega)
    have HB3 := Lib.hid hlb3
    have hT3 := And.intro (Ex.cell (p := ⟨w.heap.size, 0, none⟩) (hx3) (by simp) HT0.out.1) (And.intro (Ex.cell (p := ⟨w.heap.size, 1, none⟩) (hx3) (by simp) HT0.out.2.1) (Ex.cell (p := ⟨w.heap.size + 1, 3, none⟩) (hx3) (by simp) HT0.out.2.2))
    have HX3 := Lib.hid hx3
    have H5 := Lib.hid (And.intro ho5 hge5)
    refine hK.out _ _ (fun _ => hT3) ?_
    try simp only [Act.put, List.setIfInBounds_toArray, List.set_cons_zero, List.set_cons_succ]
    clear hK K hx3 ho5 hg5 hs5 hn5 hge5 hlb3
    refine wpL_ready (rs := [9]) (by kernel_rfl) (by simp) ?_
    refine AllNext.cons (o := _) rfl (fun K hK => ?_) AllNext.nil
    refine step_app u3 (by rfl) _ _ _ (by rfl) Tryz.underlying38 info_ub rfl (by decide) (.slice a5 ts.length c5) ts.length _ (by rfl) (H5.out.1) (.slice (some ⟨wd.heap.size, 0, none⟩) 1 1) 1 [(.slice xa x.length xc)] (by rfl) (rd_one HB3.out) (by intro u hu; simp at hu; subst hu; rfl) (by unfold maxLen; omega) (by omega) ?_
    intro a9 c9 w4 ho9 hg9 hs9 hn9
    have hx9 := (HX3.out).grown hg9 (fun k hk => .inr (H5.out.2 k (by simpa [bk] using hk)))
    have hge9 : ∀ k ∈ bk (.slice a9 (ts.length + 1) c9), W0.heap.size ≤ k := fun k hk => by
      rcases hs9 k hk with h | h
      · exact H5.out.2 k h
      · rw [h]; exact (HX3.out).size
    have hT9 := And.intro (Ex.cell (p := ⟨w.heap.size, 0, none⟩) (hx9) (by simp) HT0.out.1) (And.intro (Ex.cell (p := ⟨w.heap.size, 1, none⟩) (hx9) (by simp) HT0.out.2.1) (Ex.cell (p := ⟨w.heap.size + 1, 3, none⟩) (hx9) (by simp) HT0.out.2.2))
    have H9 := Lib.hid (And.intro ho9 (And.intro hx9 hge9))
    refine hK.out _ _ (fun _ => hT9) ?_
    try simp only [Act.put, List.setIfInBounds_toArray, List.set_cons_zero, List.set_cons_succ]
    clear hK K ho9 hg9 hs9 hn9 hge9 hx9
    refine wpL_take (i := 10) (oi := ⟨some 29, _, _, _, _, _⟩) (v := (.agg #[(.slice aa area.length ac), .slice a9 (ts.length + 1) c9])) rfl (by kernel_rfl) (by kernel_rfl) (by kernel_rfl) (by kernel_rfl) (by decide) (fun _ _ _ h => h) (Or.inl ⟨by rfl, by intro w hSw; go_simp⟩) hT9 ?_
    try simp only [Act.put, List.setIfInBounds_toArray, List.set_cons_zero, List.set_cons_succ]
    refine wpL_ready (rs := [14]) (by kernel_rfl) (by simp) ?_
    refine AllNext.cons (o := _) rfl (fun K hK => ?_) AllNext.nil
    go_simp
    refine (HCALL.out w4 (H0.out.1.pure H9.out.2.1)).mono ?_
    rintro e w6 ⟨rfl, ⟨F6, hd6, hs6, hJ6⟩, hj6, hx6⟩
    have hni : ∀ i, w.heap.size ≤ i → i ∉ J :: F := fun i hi hm => by
      rcases List.mem_cons.1 hm with rfl | hm
      · have := HFB.out.1; omega
      · have := HFB.out.2.2 i hm; omega
    have hT6 := And.intro (hx6.cell (p := ⟨w.heap.size, 0, none⟩) (hni _ (Nat.le_refl _)) hT9.1) (And.intro (hx6.cell (p := ⟨w.heap.size, 1, none⟩) (hni _ (Nat.le_refl _)) hT9.2.1) (hx6.cell (p := ⟨w.heap.size + 1, 3, none⟩) (hni _ (by show w.heap.size ≤ w.heap.size + 1; omega)) hT9.2.2))
    have hR6 := hx6.obj (H9.out.2.1.obj H0.out.2.2.2 (by simp)) (hni _ (by omega))
    have s0 : w6.cell? ⟨w.heap.size + 1 + 1, 0, none⟩ = some (.slice none 0 0) := by rw [cell_of_block hR6]; rfl
    have s1 : w6.cell? ⟨w.heap.size + 1 + 1, 1, none⟩ = some (.slice none 0 0) := by rw [cell_of_block hR6]; rfl
    have z0 : w6.frozen? ⟨w.heap.size + 1 + 1, 0, none⟩ = false := free_of_block hR6
    have z1 : w6.frozen? ⟨w.heap.size + 1 + 1, 1, none⟩ = false := free_of_block hR6
    have H6 := Lib.hid (And.intro hd6 (And.intro hs6 (And.intro hJ6 (And.intro hj6 hx6))))
    clear hd6 hs6 hJ6 hj6 hx6 hR6 hni
    refine hK.out _ _ (fun _ => hT6) ?_
    try simp only [Act.put, List.setIfInBounds_toArray, List.set_cons_zero, List.set_cons_succ]
    clear hK K
    refine wpL_ready (rs := [15]) (by kernel_rfl) (by simp) ?_
    refine AllNext.cons (o := _) rfl (fun K hK => ?_) AllNext.nil
    go_simp
    have e0 := set2 (W := w6) (a' := (.slice aa area.length ac)) (b' := .slice a9 (ts.length + 1) c9) s0 s1
    refine hK.out _ _ (fun h => absurd h (by decide)) ?_
    clear hK K
    refine wpL_ready (rs := [16]) (by kernel_rfl) (by simp) ?_
    refine AllNext.cons (o := _) rfl (fun K hK => ?_) AllNext.nil
    go_simp
    refine hK.out _ _ (fun h => absurd h (by decide)) ?_
    clear hK K
    refine wpL_done (by kernel_rfl) ?_ _
    go_wp2_with fail
    refine bodyPost_ret (v := .tuple #[.agg #[(.slice aa area.length ac), .slice a9 (ts.length + 1) c9], .int .i64 p.1]) (by simp [results, Tryz.results15, go_sem, e0]) rfl ?_
    obtain ⟨hd6, hs6, hJ6, hj6, hx6⟩ := H6.out
    exact then_app_end HFB.out H0.out HX.out HXX.out HVB.out HM.out HR.out.2.2.1 HR.out.2.2.2.1 HR.out.2.2.2.2 H9.out.1 H9.out.2.1 H9.out.2.2 hd6 hs6 hJ6 hj6 hx6
end Go.Proofs.YtckmpdplmpgniaaGreat
