/- Contracts of package log: Append where there is no room; Switch. No condition but ranges. -/
import Derived.Test.YtckmpdplmpgniaaGreatLogL
namespace Go.Proofs.YtckmpdplmpgniaaGreat
open Go Go.RowKit

set_option maxRecDepth 100000 in
set_option maxHeartbeats 4000000 in
theorem Append_long (w : World) (J D L A Da : Nat) (h : Hd) (v : Value) (x : List UInt8) (hs : shapeOk L A Da) (hj : JnAt w J D h L A Da false) (hr : h.round < 1099511627776)
    (hx : RdB w v x) (hvb : 0 < x.length → ∀ k ∈ bk v, k < w.heap.size) (hz : h.used ≤ L * 64) (hxl : x.length ≤ 1000000) (hno : L * 64 < h.used + (txt x).length) :
    Calls Tryz.prog 22 #[.pointer (some ⟨J, 0, none⟩), v] w fun e w' => e = .returned (.int .i64 3) ∧ Ex [] w w' := by
  have HJ := Lib.hid hj
  have HX := Lib.hid hx
  have HVB := Lib.hid hvb
  obtain ⟨⟨hL1, hL2⟩, ⟨hA1, hA2⟩, ⟨hD1, hD2⟩, hT⟩ := hs
  have htx : x.length + 1 ≤ (txt x).length ∧ (txt x).length ≤ x.length + 11 := by
    have := num_length x.length
    simp only [txt, List.length_append]; omega
  have c3 : w.cell? ⟨J, 3, none⟩ = some (.int .i64 h.round) := by rw [cell_of_block hj]; rfl
  have hr1 : ((h.round : Int) == 1099511627776) = false := by simp; omega
  obtain ⟨_, av, cv, rfl, _, _, _, _⟩ := hx
  clear hj hvb
  go_enter Tryz.func22, Tryz.ntmps22
  go_wp2_with fail
  refine (jable_any w J D L A Da h false HJ.out).mono ?_
  rintro e w' ⟨rfl, rfl⟩
  unfold lostE
  go_wp2_with fail
  have hm : Mk (w.alloc (.cells #[.slice none 0 0, .bool false] 114)) w.heap.size [w.heap.size] [] false := ⟨.slice none 0 0, rfl, heap_alloc_new _ _, World.ownsRow_nil _ _ _ _⟩
  have hx0 : Ex [] w ((w.alloc (.cells #[.slice none 0 0, .bool false] 114)).alloc (.cells #[.slice av x.length cv] 37)) := ((Ex.refl [] w).alloc _).alloc _
  have hrd := rd_new (w.alloc (.cells #[.slice none 0 0, .bool false] 114)) #[.slice av x.length cv] 37 1 1 rfl (by decide)
  rw [show (w.alloc (.cells #[.slice none 0 0, .bool false] 114)).heap.size = w.heap.size + 1 from by simp] at hrd
  have hm1 := hm.pure ((Ex.refl [] _).alloc (.cells #[.slice av x.length cv] 37))
  have hts : Texts ((w.alloc (.cells #[.slice none 0 0, .bool false] 114)).alloc (.cells #[.slice av x.length cv] 37)) [w.heap.size] [(.slice av x.length cv, x)] := by
    intro t ht
    simp only [List.mem_cons, List.not_mem_nil, or_false] at ht
    subst ht
    refine ⟨HX.out.pure hx0, fun hpos k hk _ hm => ?_, by show x.length ≤ _; omega⟩
    have := HVB.out hpos k hk
    simp at hm
    omega
  have hoff : Off ((w.alloc (.cells #[.slice none 0 0, .bool false] 114)).alloc (.cells #[.slice av x.length cv] 37)) (.slice (some ⟨w.heap.size + 1, 0, none⟩) 1 1) [w.heap.size] := by
    intro k hk _ hm
    simp [bk, Value.ownBlock] at hk
    simp at hm
    omega
  generalize (w.alloc (.cells #[.slice none 0 0, .bool false] 114)).alloc (.cells #[.slice av x.length cv] 37) = W0 at *
  have H0 := Lib.hid (And.intro hx0 hm1)
  refine (Text_any W0 w.heap.size [w.heap.size] [] [(.slice av x.length cv, x)] _ hrd hoff hts (by simp; omega) hm1).mono ?_
  clear hm hrd hts hoff hx0 hm1
  rintro e w1 ⟨rfl, F1, hm1, hs1, hx1⟩
  have hbs : [] ++ txts ([(Value.slice av x.length cv, x)].map Prod.snd) = txt x := by simp [txts]
  rw [hbs] at hm1
  have hxx : Ex [] w w1 := H0.out.1.off hx1 (by simp)
  have H1 := Lib.hid (And.intro hm1 hxx)
  clear hm1 hs1 hx1 hxx hbs
  go_wp2_with fail
  refine (Done_good w1 w.heap.size F1 (txt x) (by omega) H1.out.1).mono ?_
  rintro e w2 ⟨ab, cb, rfl, hob, hx2, hkb⟩
  have H2 := Lib.hid (And.intro (H1.out.2.pure hx2) (And.intro hob hkb))
  clear hx2 hob hkb
  have c3' : w2.cell? ⟨J, 3, none⟩ = some (.int .i64 h.round) := H2.out.1.cell (by simp) c3
  clear c3
  have k1 : decide (((L * 64 - h.used : Nat) : Int) < ((txt x).length : Int)) = true := by simp; omega
  go_wp2_with fail
  refine (Room_any w2 J D L A Da h hL2 (by omega) (HJ.out.pure H2.out.1 (by simp))).mono ?_
  rintro e w3 ⟨rfl, hx3⟩
  have H3 := Lib.hid (H2.out.1.pure hx3)
  clear c3' hx3
  go_wp2_with fail
  go_ret
  exact ⟨rfl, H3.out⟩

set_option maxRecDepth 100000 in
set_option maxHeartbeats 4000000 in
theorem Switch_long (w : World) (J D L A Da : Nat) (h : Hd) (v : Value) (x : List UInt8) (hs : shapeOk L A Da) (hj : JnAt w J D h L A Da false) (ha : h.area ≤ 1) (hr : h.round < 1099511627776) (hx : RdB w v x) (hno : A * 64 < x.length) :
    Calls Tryz.prog 21 #[.pointer (some ⟨J, 0, none⟩), v] w fun e w' => e = .returned (.int .i64 3) ∧ Ex [] w w' := by
  have HJ := Lib.hid hj
  have hJlt := lt_of_block hj
  obtain ⟨⟨hL1, hL2⟩, ⟨hA1, hA2⟩, ⟨hD1, hD2⟩, hT⟩ := hs
  obtain ⟨c0, c1, c2, c3, c4, c5, c6, c7, c8, c9⟩ := hj.jcells
  simp only [Int.natCast_add, Int.cast_ofNat_Int] at c6 c8
  have hb0 : bits BinOp.xor IntKind.i64 0 1 = 1 := by kernel_rfl
  have hb1 : bits BinOp.xor IntKind.i64 1 1 = 0 := by kernel_rfl
  have hr1 : ((h.round : Int) == 1099511627776) = false := by simp; omega
  have k1 : decide (((A * 64 : Nat) : Int) < (x.length : Int)) = true := by simp; omega
  obtain ⟨_, av, cv, rfl, _, _, _, _⟩ := hx
  have h01 : h.area = 0 ∨ h.area = 1 := by omega
  clear hj
  rcases h01 with h0 | h0
  all_goals
    rw [h0] at c0
    simp only [Int.cast_ofNat_Int] at c0
    have HA := Lib.hid h0
    clear h0
    go_enter Tryz.func21, Tryz.ntmps21
    go_wp2_with fail
    refine (jable_any w J D L A Da h false HJ.out).mono ?_
    rintro e w' ⟨rfl, rfl⟩
    unfold lostE
    go_wp2_with fail
    refine (size_any w _ A (by omega)).mono ?_
    rintro e w1 ⟨rfl, hw1⟩
    have HX := Lib.hid (show Ex [] w w1 by rw [hw1]; exact (Ex.refl [] w).alloc _)
    clear hw1
    go_wp2_with fail
    go_ret
    exact ⟨rfl, HX.out⟩

/-- Switch from area 0. -/
def JCells0 (J : Nat) (h : Hd) (L A : Nat) (w : World) : Prop :=
  w.cell? ⟨J, 0, none⟩ = some (.int .i64 0) ∧ w.cell? ⟨J, 1, none⟩ = some (.int .i64 h.size) ∧ w.cell? ⟨J, 2, none⟩ = some (.int .i64 h.used) ∧ w.cell? ⟨J, 3, none⟩ = some (.int .i64 h.round) ∧
  w.cell? ⟨J, 4, none⟩ = some (.int .i64 1) ∧ w.cell? ⟨J, 5, none⟩ = some (.int .i64 L) ∧ w.cell? ⟨J, 6, none⟩ = some (.int .i64 (1 + (L : Int))) ∧ w.cell? ⟨J, 7, none⟩ = some (.int .i64 A) ∧ w.cell? ⟨J, 8, none⟩ = some (.int .i64 (1 + (L : Int) + (A : Int))) ∧ w.cell? ⟨J, 9, none⟩ = some (.int .i64 A)

theorem JnAt.jcells0 {w : World} {J D L A Da : Nat} {h : Hd} {lost : Bool} (hj : JnAt w J D h L A Da lost) (h0 : h.area = 0) : JCells0 J h L A w := by
  have := hj.jcells
  unfold JCells at this
  rw [h0] at this
  exact this

set_option maxRecDepth 100000 in
set_option maxHeartbeats 4000000 in
theorem Switch_up0 (w : World) (J D L A Da : Nat) (F : List Nat) (d : Dv) (h : Hd) (v : Value) (x : List UInt8) (hs : shapeOk L A Da) (hj : JnAt w J D h L A Da false) (hd : DevAt w D F d) (hu : d.down = false) (hp : d.pend = []) (hn : sectorsS L A Da ≤ d.kept.length) (hok : h.ok) (hr : h.round < 1099511627776)
    (hx : RdB w v x) (hJF : J ∉ F) (hfit : x.length ≤ A * 64) (h0 : h.area = 0) :
    Calls Tryz.prog 21 #[.pointer (some ⟨J, 0, none⟩), v] w (Counted w J D L A Da F h (h.sw x) (d.did (areaAt L A (1 - h.area)) 0 x (h.sw x))) := by
  have HJ := Lib.hid hj
  have HD := Lib.hid hd
  have HX := Lib.hid hx
  have HU := Lib.hid hu
  have HOK := Lib.hid hok
  have HA := Lib.hid h0
  have HN := Lib.hid (show 1 + L + A + A + Da ≤ d.kept.length from hn)
  have hJlt := lt_of_block hj
  obtain ⟨⟨hL1, hL2⟩, ⟨hA1, hA2⟩, ⟨hD1, hD2⟩, hT⟩ := hs
  obtain ⟨c0, c1, c2, c3, c4, c5, c6, c7, c8, c9⟩ := hj.jcells0 h0
  have hb0 : bits BinOp.xor IntKind.i64 0 1 = 1 := by kernel_rfl
  have hr1 : ((h.round : Int) == 1099511627776) = false := by simp; omega
  have k1 : decide (((A * 64 : Nat) : Int) < (x.length : Int)) = false := by simp; omega
  have hfn : (areaAt L A (1 - h.area)) = 1 + L + A := by rw [h0]; rfl
  have HF := Lib.hid hfn
  obtain ⟨_, av, cv, rfl, _, _, _, _⟩ := hx
  clear hj hd hu hn hok h0 hfn
  go_enter Tryz.func21, Tryz.ntmps21
  go_wp2_with fail
  refine (jable_any w J D L A Da h false HJ.out).mono ?_
  rintro e w' ⟨rfl, rfl⟩
  unfold lostE
  go_wp2_with fail
  refine (size_any w _ A (by omega)).mono ?_
  rintro e w3 ⟨rfl, hw1⟩
  have HW := Lib.hid (show Ex [] w w3.drew by rw [hw1]; exact ((Ex.refl [] w).alloc _).drew)
  clear hw1 c0 c1 c2 c3 c4 c5 c6 c7 c8 c9
  go_wp2_with fail
  have hT := (HJ.out.pure HW.out (by simp)).jcells0 HA.out
  obtain ⟨K1, _, _, _, hp1, _, hp2⟩ := lay_cases (f := (areaAt L A (1 - h.area))) (at_ := 0) (m := A) (b := x) HU.out hp HD.out.1.2.2.1 (by rw [HF.out]; have := HN.out; omega) (by omega)
  have hgo : (h.sw x).ok := ⟨by show 1 - h.area ≤ 1; omega, by show x.length ≤ _; omega, by show 0 ≤ _; omega, by show h.round + 1 ≤ _; omega⟩
  have HP := Lib.hid (And.intro hp1 (And.intro hp2 hgo))
  clear hp1 hp2 hgo
  unfold JCells0 at hT
  refine wp_region_L 19 (JCells0 J h L A) (by kernel_rfl) ?_
  unfold JCells0
  refine wpL_take (i := 0) (v := (.pointer (some ⟨J, 0, none⟩))) rfl (by kernel_rfl) (by kernel_rfl) (by kernel_rfl) (by kernel_rfl) (by decide) (fun _ _ _ h => h) (Or.inl ⟨by rfl, by intro w hSw; go_simp⟩) hT ?_
  try simp only [Act.put, List.setIfInBounds_toArray, List.set_cons_zero, List.set_cons_succ]
  refine wpL_take (i := 1) (v := (.pointer (some ⟨J, 0, none⟩))) rfl (by kernel_rfl) (by kernel_rfl) (by kernel_rfl) (by kernel_rfl) (by decide) (fun _ _ _ h => h) (Or.inl ⟨by rfl, by intro w hSw; go_simp⟩) hT ?_
  try simp only [Act.put, List.setIfInBounds_toArray, List.set_cons_zero, List.set_cons_succ]
  refine wpL_take (i := 2) (v := (.pointer (some ⟨J, 0, none⟩))) rfl (by kernel_rfl) (by kernel_rfl) (by kernel_rfl) (by kernel_rfl) (by decide) (fun _ _ _ h => h) (Or.inl ⟨by rfl, by intro w hSw; go_simp⟩) hT ?_
  try simp only [Act.put, List.setIfInBounds_toArray, List.set_cons_zero, List.set_cons_succ]
  refine wpL_take (i := 3) (v := (.int .i64 1)) rfl (by kernel_rfl) (by kernel_rfl) (by kernel_rfl) (by kernel_rfl) (by decide) (fun _ _ _ h => h) (Or.inl ⟨by rfl, by intro w hSw; go_simp⟩) hT ?_
  try simp only [Act.put, List.setIfInBounds_toArray, List.set_cons_zero, List.set_cons_succ]
  refine wpL_take (i := 4) (v := (.pointer (some ⟨J, 0, none⟩))) rfl (by kernel_rfl) (by kernel_rfl) (by kernel_rfl) (by kernel_rfl) (by decide) (fun _ _ _ h => h) (Or.inl ⟨by rfl, by intro w hSw; go_simp⟩) hT ?_
  try simp only [Act.put, List.setIfInBounds_toArray, List.set_cons_zero, List.set_cons_succ]
  refine wpL_take (i := 5) (v := (.pointer (some ⟨J, 4, none⟩))) rfl (by kernel_rfl) (by kernel_rfl) (by kernel_rfl) (by kernel_rfl) (by decide) (fun _ _ _ h => h) (Or.inl ⟨by rfl, by intro w hSw; go_simp⟩) hT ?_
  try simp only [Act.put, List.setIfInBounds_toArray, List.set_cons_zero, List.set_cons_succ]
  refine wpL_take (i := 6) (v := (.pointer (some ⟨J, 6, none⟩))) rfl (by kernel_rfl) (by kernel_rfl) (by kernel_rfl) (by kernel_rfl) (by decide) (fun _ _ _ h => h) (Or.inl ⟨by rfl, by intro w hSw; go_simp⟩) hT ?_
  try simp only [Act.put, List.setIfInBounds_toArray, List.set_cons_zero, List.set_cons_succ]
  refine wpL_take (i := 7) (v := (.pointer (some ⟨J, 8, none⟩))) rfl (by kernel_rfl) (by kernel_rfl) (by kernel_rfl) (by kernel_rfl) (by decide) (fun _ _ _ h => h) (Or.inl ⟨by rfl, by intro w hSw; go_simp⟩) hT ?_
  try simp only [Act.put, List.setIfInBounds_toArray, List.set_cons_zero, List.set_cons_succ]
  refine wpL_take (i := 8) (v := (.agg #[.int .i64 (1 + (L : Int) + (A : Int)), .int .i64 A])) rfl (by kernel_rfl) (by kernel_rfl) (by kernel_rfl) (by kernel_rfl) (by decide) (fun _ _ _ h => h) (Or.inl ⟨by rfl, by intro w hSw; go_simp⟩) hT ?_
  try simp only [Act.put, List.setIfInBounds_toArray, List.set_cons_zero, List.set_cons_succ]
  refine wpL_take (i := 9) (v := (.slice av x.length cv)) rfl (by kernel_rfl) (by kernel_rfl) (by kernel_rfl) (by kernel_rfl) (by decide) (fun _ _ _ h => h) (Or.inl ⟨by rfl, by intro w hSw; go_simp⟩) hT ?_
  try simp only [Act.put, List.setIfInBounds_toArray, List.set_cons_zero, List.set_cons_succ]
  refine wpL_take (i := 11) (v := (.pointer (some ⟨J, 0, none⟩))) rfl (by kernel_rfl) (by kernel_rfl) (by kernel_rfl) (by kernel_rfl) (by decide) (fun _ _ _ h => h) (Or.inl ⟨by rfl, by intro w hSw; go_simp⟩) hT ?_
  try simp only [Act.put, List.setIfInBounds_toArray, List.set_cons_zero, List.set_cons_succ]
  refine wpL_take (i := 12) (v := (.pointer (some ⟨J, 0, none⟩))) rfl (by kernel_rfl) (by kernel_rfl) (by kernel_rfl) (by kernel_rfl) (by decide) (fun _ _ _ h => h) (Or.inl ⟨by rfl, by intro w hSw; go_simp⟩) hT ?_
  try simp only [Act.put, List.setIfInBounds_toArray, List.set_cons_zero, List.set_cons_succ]
  refine wpL_take (i := 13) (v := (.pointer (some ⟨J, 0, none⟩))) rfl (by kernel_rfl) (by kernel_rfl) (by kernel_rfl) (by kernel_rfl) (by decide) (fun _ _ _ h => h) (Or.inl ⟨by rfl, by intro w hSw; go_simp⟩) hT ?_
  try simp only [Act.put, List.setIfInBounds_toArray, List.set_cons_zero, List.set_cons_succ]
  refine wpL_take (i := 14) (v := (.agg #[.int .i64 0, .int .i64 h.size, .int .i64 h.used, .int .i64 h.round])) rfl (by kernel_rfl) (by kernel_rfl) (by kernel_rfl) (by kernel_rfl) (by decide) (fun _ _ _ h => h) (Or.inl ⟨by rfl, by intro w hSw; go_simp⟩) hT ?_
  try simp only [Act.put, List.setIfInBounds_toArray, List.set_cons_zero, List.set_cons_succ]
  refine wpL_take (i := 15) (v := (.int .i64 1)) rfl (by kernel_rfl) (by kernel_rfl) (by kernel_rfl) (by kernel_rfl) (by decide) (fun _ _ _ h => h) (Or.inl ⟨by rfl, by intro w hSw; go_simp⟩) hT ?_
  try simp only [Act.put, List.setIfInBounds_toArray, List.set_cons_zero, List.set_cons_succ]
  refine wpL_take (i := 16) (v := (.slice av x.length cv)) rfl (by kernel_rfl) (by kernel_rfl) (by kernel_rfl) (by kernel_rfl) (by decide) (fun _ _ _ h => h) (Or.inl ⟨by rfl, by intro w hSw; go_simp⟩) hT ?_
  try simp only [Act.put, List.setIfInBounds_toArray, List.set_cons_zero, List.set_cons_succ]
  refine wpL_take (i := 17) (v := (.int .i64 x.length)) rfl (by kernel_rfl) (by kernel_rfl) (by kernel_rfl) (by kernel_rfl) (by decide) (fun _ _ _ h => h) (Or.inl ⟨by rfl, by intro w hSw; go_simp⟩) hT ?_
  try simp only [Act.put, List.setIfInBounds_toArray, List.set_cons_zero, List.set_cons_succ]
  refine wpL_ready (rs := [10]) (by kernel_rfl) (by simp) ?_
  refine AllNext.cons (o := _) rfl (fun K hK => ?_) AllNext.nil
  go_simp
  have hwr := write_up w3.drew J D L A Da F d h (areaAt L A (1 - h.area)) A 0 (.slice av x.length cv) x (HJ.out.pure HW.out (by simp)) (HD.out.pure HW.out) HU.out (by rw [hp]; simp) (by rw [HF.out]; have := HN.out; omega) (by omega) (HX.out.pure HW.out) hJF
  rw [show (((areaAt L A (1 - h.area)) : Nat) : Int) = (1 + (L : Int) + (A : Int)) from by rw [HF.out]; simp only [Int.natCast_add, Int.cast_ofNat_Int]] at hwr
  refine hwr.mono ?_
  clear hwr
  rintro e w5 ⟨rfl, F5, hd5, hs5, hx5⟩
  have hj5 := (HJ.out.pure HW.out (by simp)).pure hx5 hJF
  have hT5 := hj5.jcells0 HA.out
  have hs5' : Sw w F F5 := hs5.mono_size HW.out.size
  have hJ5 : J ∉ F5 := fun hm => (hs5' J hm).elim hJF (fun h => by omega)
  have hx5' : Ex F w w5 := HW.out.of_nil.trans hx5 (Sw.refl _ _)
  have H5 := Lib.hid (And.intro hd5 (And.intro hs5' (And.intro hJ5 (And.intro hx5' hj5))))
  clear hd5 hs5 hx5 hs5' hJ5 hx5' hj5
  have HDID : Hid (d.did (areaAt L A (1 - h.area)) 0 x (h.sw x) = if (d.lay (areaAt L A (1 - h.area)) 0 x).1 = 0 then (d.lay (areaAt L A (1 - h.area)) 0 x).2.count (h.sw x) else d.lay (areaAt L A (1 - h.area)) 0 x) := rfl
  unfold JCells0 at hT5
  generalize d.lay (areaAt L A (1 - h.area)) 0 x = p at *
  obtain ⟨pe, pd⟩ := p
  refine hK.out _ _ (fun _ => hT5) ?_
  try simp only [Act.put, List.setIfInBounds_toArray, List.set_cons_zero, List.set_cons_succ]
  clear hK K
  refine wpL_ready (rs := [18]) (by kernel_rfl) (by simp) ?_
  refine AllNext.cons (o := _) rfl (fun K hK => ?_) AllNext.nil
  go_simp
  have hnx := next_head w5 h 1 x.length 0 (by omega)
  have hgs : h.next 1 x.length 0 = h.sw x := by unfold Hd.sw; rw [HA.out]
  rw [hgs] at hnx
  unfold Hd.cells at hnx
  rw [HA.out] at hnx
  refine hnx.mono ?_
  clear hnx hgs
  rintro e w6 ⟨rfl, hw6⟩
  have hx6 : Ex [] w5 w6 := by rw [hw6]; exact ((Ex.refl [] w5).alloc _).alloc _
  have hj6 := H5.out.2.2.2.2.pure hx6 (by simp)
  have hT6 := hj6.jcells0 HA.out
  have H6 := Lib.hid (And.intro (H5.out.1.pure hx6) (And.intro (H5.out.2.2.2.1.pure hx6) hj6))
  clear hw6 hx6 hj6
  unfold JCells0 at hT6
  refine hK.out _ _ (fun _ => hT6) ?_
  try simp only [Act.put, List.setIfInBounds_toArray, List.set_cons_zero, List.set_cons_succ]
  clear hK K
  refine wpL_ready (rs := [19]) (by kernel_rfl) (by simp) ?_
  refine AllNext.cons (o := _) rfl (fun K hK => ?_) AllNext.nil
  go_simp
  by_cases hpe : pe = 0
  · subst hpe
    refine (count_ok w6 J D L A Da F5 pd h (h.sw x) H6.out.2.2 H6.out.1 H5.out.2.2.1 HP.out.2.2 (by have := HP.out.1; simp only at this; omega)).mono ?_
    rintro e w7 ⟨rfl, hc⟩
    have HC := Lib.hid (show Counted w J D L A Da F h (h.sw x) (d.did (areaAt L A (1 - h.area)) 0 x (h.sw x)) (.returned (.int .i64 ((pd.count (h.sw x)).1 : Nat))) w7 by rw [HDID.out]; exact Counted.of ⟨rfl, hc⟩ H5.out.2.1 H6.out.2.1)
    clear hc
    refine hK.out _ _ (fun h => absurd h (by decide)) ?_
    try simp only [Act.put, List.setIfInBounds_toArray, List.set_cons_zero, List.set_cons_succ]
    clear hK K
    refine wpL_ready (rs := [20]) (by kernel_rfl) (by simp) ?_
    refine AllNext.cons (o := _) rfl (fun K hK => ?_) AllNext.nil
    go_simp
    refine hK.out _ _ (fun h => absurd h (by decide)) ?_
    clear hK K
    refine wpL_done (by kernel_rfl) ?_ _
    go_wp2_with fail
    go_ret
    exact HC.out
  · have HE : Hid (pe ≠ 0) := hpe
    refine (count_bad w6 J D L A Da h (h.sw x) pe hpe H6.out.2.2).mono ?_
    rintro e w7 ⟨rfl, hj7, hx7⟩
    have hd7 := H6.out.1.ex hx7 (fun k hk hm => by simp at hm; subst hm; exact H5.out.2.2.1 hk)
    have HC := Lib.hid (show Counted w J D L A Da F h (h.sw x) (d.did (areaAt L A (1 - h.area)) 0 x (h.sw x)) (.returned (.int .i64 (pe : Nat))) w7 by
      rw [HDID.out, if_neg HE.out]
      refine Counted.of (F1 := F5) (w1 := w6) ⟨rfl, ⟨F5, hd7, Sw.refl _ _, H5.out.2.2.1⟩, ?_, hx7.weaken (fun k hk => by simp at hk; simp [hk])⟩ H5.out.2.1 H6.out.2.1
      rw [if_neg HE.out]
      simpa [HE.out] using hj7)
    clear hj7 hx7 hd7 hpe
    refine hK.out _ _ (fun h => absurd h (by decide)) ?_
    try simp only [Act.put, List.setIfInBounds_toArray, List.set_cons_zero, List.set_cons_succ]
    clear hK K
    refine wpL_ready (rs := [20]) (by kernel_rfl) (by simp) ?_
    refine AllNext.cons (o := _) rfl (fun K hK => ?_) AllNext.nil
    go_simp
    refine hK.out _ _ (fun h => absurd h (by decide)) ?_
    clear hK K
    refine wpL_done (by kernel_rfl) ?_ _
    go_wp2_with fail
    go_ret
    exact HC.out

/-- Switch from area 1. -/
def JCells1 (J : Nat) (h : Hd) (L A : Nat) (w : World) : Prop :=
  w.cell? ⟨J, 0, none⟩ = some (.int .i64 1) ∧ w.cell? ⟨J, 1, none⟩ = some (.int .i64 h.size) ∧ w.cell? ⟨J, 2, none⟩ = some (.int .i64 h.used) ∧ w.cell? ⟨J, 3, none⟩ = some (.int .i64 h.round) ∧
  w.cell? ⟨J, 4, none⟩ = some (.int .i64 1) ∧ w.cell? ⟨J, 5, none⟩ = some (.int .i64 L) ∧ w.cell? ⟨J, 6, none⟩ = some (.int .i64 (1 + (L : Int))) ∧ w.cell? ⟨J, 7, none⟩ = some (.int .i64 A) ∧ w.cell? ⟨J, 8, none⟩ = some (.int .i64 (1 + (L : Int) + (A : Int))) ∧ w.cell? ⟨J, 9, none⟩ = some (.int .i64 A)

theorem JnAt.jcells1 {w : World} {J D L A Da : Nat} {h : Hd} {lost : Bool} (hj : JnAt w J D h L A Da lost) (h0 : h.area = 1) : JCells1 J h L A w := by
  have := hj.jcells
  unfold JCells at this
  rw [h0] at this
  exact this

set_option maxRecDepth 100000 in
set_option maxHeartbeats 4000000 in
theorem Switch_up1 (w : World) (J D L A Da : Nat) (F : List Nat) (d : Dv) (h : Hd) (v : Value) (x : List UInt8) (hs : shapeOk L A Da) (hj : JnAt w J D h L A Da false) (hd : DevAt w D F d) (hu : d.down = false) (hp : d.pend = []) (hn : sectorsS L A Da ≤ d.kept.length) (hok : h.ok) (hr : h.round < 1099511627776)
    (hx : RdB w v x) (hJF : J ∉ F) (hfit : x.length ≤ A * 64) (h0 : h.area = 1) :
    Calls Tryz.prog 21 #[.pointer (some ⟨J, 0, none⟩), v] w (Counted w J D L A Da F h (h.sw x) (d.did (areaAt L A (1 - h.area)) 0 x (h.sw x))) := by
  have HJ := Lib.hid hj
  have HD := Lib.hid hd
  have HX := Lib.hid hx
  have HU := Lib.hid hu
  have HOK := Lib.hid hok
  have HA := Lib.hid h0
  have HN := Lib.hid (show 1 + L + A + A + Da ≤ d.kept.length from hn)
  have hJlt := lt_of_block hj
  obtain ⟨⟨hL1, hL2⟩, ⟨hA1, hA2⟩, ⟨hD1, hD2⟩, hT⟩ := hs
  obtain ⟨c0, c1, c2, c3, c4, c5, c6, c7, c8, c9⟩ := hj.jcells1 h0
  have hb0 : bits BinOp.xor IntKind.i64 1 1 = 0 := by kernel_rfl
  have hr1 : ((h.round : Int) == 1099511627776) = false := by simp; omega
  have k1 : decide (((A * 64 : Nat) : Int) < (x.length : Int)) = false := by simp; omega
  have hfn : (areaAt L A (1 - h.area)) = 1 + L := by rw [h0]; rfl
  have HF := Lib.hid hfn
  obtain ⟨_, av, cv, rfl, _, _, _, _⟩ := hx
  clear hj hd hu hn hok h0 hfn
  go_enter Tryz.func21, Tryz.ntmps21
  go_wp2_with fail
  refine (jable_any w J D L A Da h false HJ.out).mono ?_
  rintro e w' ⟨rfl, rfl⟩
  unfold lostE
  go_wp2_with fail
  refine (size_any w _ A (by omega)).mono ?_
  rintro e w3 ⟨rfl, hw1⟩
  have HW := Lib.hid (show Ex [] w w3.drew by rw [hw1]; exact ((Ex.refl [] w).alloc _).drew)
  clear hw1 c0 c1 c2 c3 c4 c5 c6 c7 c8 c9
  go_wp2_with fail
  have hT := (HJ.out.pure HW.out (by simp)).jcells1 HA.out
  obtain ⟨K1, _, _, _, hp1, _, hp2⟩ := lay_cases (f := (areaAt L A (1 - h.area))) (at_ := 0) (m := A) (b := x) HU.out hp HD.out.1.2.2.1 (by rw [HF.out]; have := HN.out; omega) (by omega)
  have hgo : (h.sw x).ok := ⟨by show 1 - h.area ≤ 1; omega, by show x.length ≤ _; omega, by show 0 ≤ _; omega, by show h.round + 1 ≤ _; omega⟩
  have HP := Lib.hid (And.intro hp1 (And.intro hp2 hgo))
  clear hp1 hp2 hgo
  unfold JCells1 at hT
  refine wp_region_L 19 (JCells1 J h L A) (by kernel_rfl) ?_
  unfold JCells1
  refine wpL_take (i := 0) (v := (.pointer (some ⟨J, 0, none⟩))) rfl (by kernel_rfl) (by kernel_rfl) (by kernel_rfl) (by kernel_rfl) (by decide) (fun _ _ _ h => h) (Or.inl ⟨by rfl, by intro w hSw; go_simp⟩) hT ?_
  try simp only [Act.put, List.setIfInBounds_toArray, List.set_cons_zero, List.set_cons_succ]
  refine wpL_take (i := 1) (v := (.pointer (some ⟨J, 0, none⟩))) rfl (by kernel_rfl) (by kernel_rfl) (by kernel_rfl) (by kernel_rfl) (by decide) (fun _ _ _ h => h) (Or.inl ⟨by rfl, by intro w hSw; go_simp⟩) hT ?_
  try simp only [Act.put, List.setIfInBounds_toArray, List.set_cons_zero, List.set_cons_succ]
  refine wpL_take (i := 2) (v := (.pointer (some ⟨J, 0, none⟩))) rfl (by kernel_rfl) (by kernel_rfl) (by kernel_rfl) (by kernel_rfl) (by decide) (fun _ _ _ h => h) (Or.inl ⟨by rfl, by intro w hSw; go_simp⟩) hT ?_
  try simp only [Act.put, List.setIfInBounds_toArray, List.set_cons_zero, List.set_cons_succ]
  refine wpL_take (i := 3) (v := (.int .i64 0)) rfl (by kernel_rfl) (by kernel_rfl) (by kernel_rfl) (by kernel_rfl) (by decide) (fun _ _ _ h => h) (Or.inl ⟨by rfl, by intro w hSw; go_simp⟩) hT ?_
  try simp only [Act.put, List.setIfInBounds_toArray, List.set_cons_zero, List.set_cons_succ]
  refine wpL_take (i := 4) (v := (.pointer (some ⟨J, 0, none⟩))) rfl (by kernel_rfl) (by kernel_rfl) (by kernel_rfl) (by kernel_rfl) (by decide) (fun _ _ _ h => h) (Or.inl ⟨by rfl, by intro w hSw; go_simp⟩) hT ?_
  try simp only [Act.put, List.setIfInBounds_toArray, List.set_cons_zero, List.set_cons_succ]
  refine wpL_take (i := 5) (v := (.pointer (some ⟨J, 4, none⟩))) rfl (by kernel_rfl) (by kernel_rfl) (by kernel_rfl) (by kernel_rfl) (by decide) (fun _ _ _ h => h) (Or.inl ⟨by rfl, by intro w hSw; go_simp⟩) hT ?_
  try simp only [Act.put, List.setIfInBounds_toArray, List.set_cons_zero, List.set_cons_succ]
  refine wpL_take (i := 6) (v := (.pointer (some ⟨J, 6, none⟩))) rfl (by kernel_rfl) (by kernel_rfl) (by kernel_rfl) (by kernel_rfl) (by decide) (fun _ _ _ h => h) (Or.inl ⟨by rfl, by intro w hSw; go_simp⟩) hT ?_
  try simp only [Act.put, List.setIfInBounds_toArray, List.set_cons_zero, List.set_cons_succ]
  refine wpL_take (i := 7) (v := (.pointer (some ⟨J, 6, none⟩))) rfl (by kernel_rfl) (by kernel_rfl) (by kernel_rfl) (by kernel_rfl) (by decide) (fun _ _ _ h => h) (Or.inl ⟨by rfl, by intro w hSw; go_simp⟩) hT ?_
  try simp only [Act.put, List.setIfInBounds_toArray, List.set_cons_zero, List.set_cons_succ]
  refine wpL_take (i := 8) (v := (.agg #[.int .i64 (1 + (L : Int)), .int .i64 A])) rfl (by kernel_rfl) (by kernel_rfl) (by kernel_rfl) (by kernel_rfl) (by decide) (fun _ _ _ h => h) (Or.inl ⟨by rfl, by intro w hSw; go_simp⟩) hT ?_
  try simp only [Act.put, List.setIfInBounds_toArray, List.set_cons_zero, List.set_cons_succ]
  refine wpL_take (i := 9) (v := (.slice av x.length cv)) rfl (by kernel_rfl) (by kernel_rfl) (by kernel_rfl) (by kernel_rfl) (by decide) (fun _ _ _ h => h) (Or.inl ⟨by rfl, by intro w hSw; go_simp⟩) hT ?_
  try simp only [Act.put, List.setIfInBounds_toArray, List.set_cons_zero, List.set_cons_succ]
  refine wpL_take (i := 11) (v := (.pointer (some ⟨J, 0, none⟩))) rfl (by kernel_rfl) (by kernel_rfl) (by kernel_rfl) (by kernel_rfl) (by decide) (fun _ _ _ h => h) (Or.inl ⟨by rfl, by intro w hSw; go_simp⟩) hT ?_
  try simp only [Act.put, List.setIfInBounds_toArray, List.set_cons_zero, List.set_cons_succ]
  refine wpL_take (i := 12) (v := (.pointer (some ⟨J, 0, none⟩))) rfl (by kernel_rfl) (by kernel_rfl) (by kernel_rfl) (by kernel_rfl) (by decide) (fun _ _ _ h => h) (Or.inl ⟨by rfl, by intro w hSw; go_simp⟩) hT ?_
  try simp only [Act.put, List.setIfInBounds_toArray, List.set_cons_zero, List.set_cons_succ]
  refine wpL_take (i := 13) (v := (.pointer (some ⟨J, 0, none⟩))) rfl (by kernel_rfl) (by kernel_rfl) (by kernel_rfl) (by kernel_rfl) (by decide) (fun _ _ _ h => h) (Or.inl ⟨by rfl, by intro w hSw; go_simp⟩) hT ?_
  try simp only [Act.put, List.setIfInBounds_toArray, List.set_cons_zero, List.set_cons_succ]
  refine wpL_take (i := 14) (v := (.agg #[.int .i64 1, .int .i64 h.size, .int .i64 h.used, .int .i64 h.round])) rfl (by kernel_rfl) (by kernel_rfl) (by kernel_rfl) (by kernel_rfl) (by decide) (fun _ _ _ h => h) (Or.inl ⟨by rfl, by intro w hSw; go_simp⟩) hT ?_
  try simp only [Act.put, List.setIfInBounds_toArray, List.set_cons_zero, List.set_cons_succ]
  refine wpL_take (i := 15) (v := (.int .i64 0)) rfl (by kernel_rfl) (by kernel_rfl) (by kernel_rfl) (by kernel_rfl) (by decide) (fun _ _ _ h => h) (Or.inl ⟨by rfl, by intro w hSw; go_simp⟩) hT ?_
  try simp only [Act.put, List.setIfInBounds_toArray, List.set_cons_zero, List.set_cons_succ]
  refine wpL_take (i := 16) (v := (.slice av x.length cv)) rfl (by kernel_rfl) (by kernel_rfl) (by kernel_rfl) (by kernel_rfl) (by decide) (fun _ _ _ h => h) (Or.inl ⟨by rfl, by intro w hSw; go_simp⟩) hT ?_
  try simp only [Act.put, List.setIfInBounds_toArray, List.set_cons_zero, List.set_cons_succ]
  refine wpL_take (i := 17) (v := (.int .i64 x.length)) rfl (by kernel_rfl) (by kernel_rfl) (by kernel_rfl) (by kernel_rfl) (by decide) (fun _ _ _ h => h) (Or.inl ⟨by rfl, by intro w hSw; go_simp⟩) hT ?_
  try simp only [Act.put, List.setIfInBounds_toArray, List.set_cons_zero, List.set_cons_succ]
  refine wpL_ready (rs := [10]) (by kernel_rfl) (by simp) ?_
  refine AllNext.cons (o := _) rfl (fun K hK => ?_) AllNext.nil
  go_simp
  have hwr := write_up w3.drew J D L A Da F d h (areaAt L A (1 - h.area)) A 0 (.slice av x.length cv) x (HJ.out.pure HW.out (by simp)) (HD.out.pure HW.out) HU.out (by rw [hp]; simp) (by rw [HF.out]; have := HN.out; omega) (by omega) (HX.out.pure HW.out) hJF
  rw [show (((areaAt L A (1 - h.area)) : Nat) : Int) = (1 + (L : Int)) from by rw [HF.out]; simp only [Int.natCast_add, Int.cast_ofNat_Int]] at hwr
  refine hwr.mono ?_
  clear hwr
  rintro e w5 ⟨rfl, F5, hd5, hs5, hx5⟩
  have hj5 := (HJ.out.pure HW.out (by simp)).pure hx5 hJF
  have hT5 := hj5.jcells1 HA.out
  have hs5' : Sw w F F5 := hs5.mono_size HW.out.size
  have hJ5 : J ∉ F5 := fun hm => (hs5' J hm).elim hJF (fun h => by omega)
  have hx5' : Ex F w w5 := HW.out.of_nil.trans hx5 (Sw.refl _ _)
  have H5 := Lib.hid (And.intro hd5 (And.intro hs5' (And.intro hJ5 (And.intro hx5' hj5))))
  clear hd5 hs5 hx5 hs5' hJ5 hx5' hj5
  have HDID : Hid (d.did (areaAt L A (1 - h.area)) 0 x (h.sw x) = if (d.lay (areaAt L A (1 - h.area)) 0 x).1 = 0 then (d.lay (areaAt L A (1 - h.area)) 0 x).2.count (h.sw x) else d.lay (areaAt L A (1 - h.area)) 0 x) := rfl
  unfold JCells1 at hT5
  generalize d.lay (areaAt L A (1 - h.area)) 0 x = p at *
  obtain ⟨pe, pd⟩ := p
  refine hK.out _ _ (fun _ => hT5) ?_
  try simp only [Act.put, List.setIfInBounds_toArray, List.set_cons_zero, List.set_cons_succ]
  clear hK K
  refine wpL_ready (rs := [18]) (by kernel_rfl) (by simp) ?_
  refine AllNext.cons (o := _) rfl (fun K hK => ?_) AllNext.nil
  go_simp
  have hnx := next_head w5 h 0 x.length 0 (by omega)
  have hgs : h.next 0 x.length 0 = h.sw x := by unfold Hd.sw; rw [HA.out]
  rw [hgs] at hnx
  unfold Hd.cells at hnx
  rw [HA.out] at hnx
  refine hnx.mono ?_
  clear hnx hgs
  rintro e w6 ⟨rfl, hw6⟩
  have hx6 : Ex [] w5 w6 := by rw [hw6]; exact ((Ex.refl [] w5).alloc _).alloc _
  have hj6 := H5.out.2.2.2.2.pure hx6 (by simp)
  have hT6 := hj6.jcells1 HA.out
  have H6 := Lib.hid (And.intro (H5.out.1.pure hx6) (And.intro (H5.out.2.2.2.1.pure hx6) hj6))
  clear hw6 hx6 hj6
  unfold JCells1 at hT6
  refine hK.out _ _ (fun _ => hT6) ?_
  try simp only [Act.put, List.setIfInBounds_toArray, List.set_cons_zero, List.set_cons_succ]
  clear hK K
  refine wpL_ready (rs := [19]) (by kernel_rfl) (by simp) ?_
  refine AllNext.cons (o := _) rfl (fun K hK => ?_) AllNext.nil
  go_simp
  by_cases hpe : pe = 0
  · subst hpe
    refine (count_ok w6 J D L A Da F5 pd h (h.sw x) H6.out.2.2 H6.out.1 H5.out.2.2.1 HP.out.2.2 (by have := HP.out.1; simp only at this; omega)).mono ?_
    rintro e w7 ⟨rfl, hc⟩
    have HC := Lib.hid (show Counted w J D L A Da F h (h.sw x) (d.did (areaAt L A (1 - h.area)) 0 x (h.sw x)) (.returned (.int .i64 ((pd.count (h.sw x)).1 : Nat))) w7 by rw [HDID.out]; exact Counted.of ⟨rfl, hc⟩ H5.out.2.1 H6.out.2.1)
    clear hc
    refine hK.out _ _ (fun h => absurd h (by decide)) ?_
    try simp only [Act.put, List.setIfInBounds_toArray, List.set_cons_zero, List.set_cons_succ]
    clear hK K
    refine wpL_ready (rs := [20]) (by kernel_rfl) (by simp) ?_
    refine AllNext.cons (o := _) rfl (fun K hK => ?_) AllNext.nil
    go_simp
    refine hK.out _ _ (fun h => absurd h (by decide)) ?_
    clear hK K
    refine wpL_done (by kernel_rfl) ?_ _
    go_wp2_with fail
    go_ret
    exact HC.out
  · have HE : Hid (pe ≠ 0) := hpe
    refine (count_bad w6 J D L A Da h (h.sw x) pe hpe H6.out.2.2).mono ?_
    rintro e w7 ⟨rfl, hj7, hx7⟩
    have hd7 := H6.out.1.ex hx7 (fun k hk hm => by simp at hm; subst hm; exact H5.out.2.2.1 hk)
    have HC := Lib.hid (show Counted w J D L A Da F h (h.sw x) (d.did (areaAt L A (1 - h.area)) 0 x (h.sw x)) (.returned (.int .i64 (pe : Nat))) w7 by
      rw [HDID.out, if_neg HE.out]
      refine Counted.of (F1 := F5) (w1 := w6) ⟨rfl, ⟨F5, hd7, Sw.refl _ _, H5.out.2.2.1⟩, ?_, hx7.weaken (fun k hk => by simp at hk; simp [hk])⟩ H5.out.2.1 H6.out.2.1
      rw [if_neg HE.out]
      simpa [HE.out] using hj7)
    clear hj7 hx7 hd7 hpe
    refine hK.out _ _ (fun h => absurd h (by decide)) ?_
    try simp only [Act.put, List.setIfInBounds_toArray, List.set_cons_zero, List.set_cons_succ]
    clear hK K
    refine wpL_ready (rs := [20]) (by kernel_rfl) (by simp) ?_
    refine AllNext.cons (o := _) rfl (fun K hK => ?_) AllNext.nil
    go_simp
    refine hK.out _ _ (fun h => absurd h (by decide)) ?_
    clear hK K
    refine wpL_done (by kernel_rfl) ?_ _
    go_wp2_with fail
    go_ret
    exact HC.out

theorem Switch_up (w : World) (J D L A Da : Nat) (F : List Nat) (d : Dv) (h : Hd) (v : Value) (x : List UInt8) (hs : shapeOk L A Da) (hj : JnAt w J D h L A Da false) (hd : DevAt w D F d) (hu : d.down = false) (hp : d.pend = []) (hn : sectorsS L A Da ≤ d.kept.length) (hok : h.ok) (hr : h.round < 1099511627776)
    (hx : RdB w v x) (hJF : J ∉ F) (hfit : x.length ≤ A * 64) :
    Calls Tryz.prog 21 #[.pointer (some ⟨J, 0, none⟩), v] w (Counted w J D L A Da F h (h.sw x) (d.did (areaAt L A (1 - h.area)) 0 x (h.sw x))) := by
  have ha := hok.1
  by_cases h0 : h.area = 0
  · exact Switch_up0 w J D L A Da F d h v x hs hj hd hu hp hn hok hr hx hJF hfit h0
  · exact Switch_up1 w J D L A Da F d h v x hs hj hd hu hp hn hok hr hx hJF hfit (by omega)
end Go.Proofs.YtckmpdplmpgniaaGreat
