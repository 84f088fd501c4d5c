/- Contracts of package log: heads, and formatting. No condition but ranges. -/
import Derived.Test.YtckmpdplmpgniaaGreatLogA
import Derived.Test.YtckmpdplmpgniaaGreatPlain
import Derived.Test.YtckmpdplmpgniaaGreatCodeB
namespace Go.Proofs.YtckmpdplmpgniaaGreat
open Go Go.RowKit

/-- A head's cells. -/
def Hd.cells (h : Hd) : Array Value := #[.int .i64 h.area, .int .i64 h.size, .int .i64 h.used, .int .i64 h.round]

set_option maxRecDepth 100000 in
set_option maxHeartbeats 2000000 in
theorem bytes_any (w : World) (h : Hd) (hk : h.ok) :
    Calls Tryz.prog 73 #[.agg h.cells] w fun x w' => ∃ a cap, x = .returned (.slice a h.bytes.length cap) ∧ Own w' 5 1 (.slice a h.bytes.length cap) h.bytes.length (encB h.bytes) ∧ Ex [] w w' ∧ (∀ k ∈ bk (.slice a h.bytes.length cap), w.heap.size ≤ k) := by
  have HK := Lib.hid hk
  obtain ⟨ha, hs, hu, hr⟩ := hk
  unfold Hd.cells
  go_enter Tryz.func73, Tryz.ntmps73
  go_wp2_with fail
  have hm : Mk ((w.alloc (.cells #[.int .i64 h.area, .int .i64 h.size, .int .i64 h.used, .int .i64 h.round] 90)).alloc (.cells #[.slice none 0 0, .bool false] 114)) (w.heap.size + 1) [w.heap.size + 1] [] false :=
    ⟨.slice none 0 0, rfl, by have := heap_alloc_new (w.alloc (.cells #[.int .i64 h.area, .int .i64 h.size, .int .i64 h.used, .int .i64 h.round] 90)) (.cells #[.slice none 0 0, .bool false] 114); simpa using this, World.ownsRow_nil _ _ _ _⟩
  have hx0 : Ex [] w ((w.alloc (.cells #[.int .i64 h.area, .int .i64 h.size, .int .i64 h.used, .int .i64 h.round] 90)).alloc (.cells #[.slice none 0 0, .bool false] 114)) := ((Ex.refl [] w).alloc _).alloc _
  have hsz : ((w.alloc (.cells #[.int .i64 h.area, .int .i64 h.size, .int .i64 h.used, .int .i64 h.round] 90)).alloc (.cells #[.slice none 0 0, .bool false] 114)).heap.size = w.heap.size + 1 + 1 := by simp
  generalize ((w.alloc (.cells #[.int .i64 h.area, .int .i64 h.size, .int .i64 h.used, .int .i64 h.round] 90)).alloc (.cells #[.slice none 0 0, .bool false] 114)) = W0 at *
  have hrd := rd_new W0 #[.int .i64 h.area, .int .i64 h.size, .int .i64 h.used, .int .i64 h.round] 3 1 4 rfl (by decide)
  rw [hsz] at hrd
  refine (Num_any (W0.alloc (.cells #[.int .i64 h.area, .int .i64 h.size, .int .i64 h.used, .int .i64 h.round] 3)) (w.heap.size + 1) [w.heap.size + 1] [] h.list (.slice (some ⟨w.heap.size + 1 + 1, 0, none⟩) 4 4) hrd ?_ ?_ (by simp [Hd.list]) (hm.pure ((Ex.refl [] W0).alloc _))).mono ?_
  · intro k hk' _ hm'
    simp [bk, Value.ownBlock] at hk'
    simp at hm'
    omega
  · intro n hn
    simp only [Hd.list, List.mem_cons, List.not_mem_nil, or_false] at hn
    omega
  rintro x w1 ⟨rfl, F1, hm1, hs1, hx1⟩
  have HM := Lib.hid hm1
  have HX := Lib.hid (And.intro hs1 hx1)
  clear hm1 hs1 hx1 hm hrd
  go_wp2_with fail
  refine (Done_good w1 (w.heap.size + 1) F1 h.bytes (by have := h.bytes_length HK.out; omega) (by simpa [Hd.bytes] using HM.out)).mono ?_
  rintro x w2 ⟨a, cap, rfl, ho, hx2, hk2⟩
  have HO := Lib.hid (And.intro ho (And.intro hx2 hk2))
  clear ho hx2 hk2
  go_wp2_with fail
  go_ret
  obtain ⟨ho, hx2, hk2⟩ := HO.out
  obtain ⟨hs1, hx1⟩ := HX.out
  have hxx : Ex [] w w1 := (hx0.pure ((Ex.refl [] W0).alloc _)).off hx1 (by simp)
  exact ⟨a, cap, rfl, ho, hxx.pure hx2, fun k hk' => Nat.le_trans hxx.size (hk2 k hk')⟩

theorem Sw.mono_size {w w' : World} {F F' : List Nat} (h : Sw w' F F') (hs : w.heap.size ≤ w'.heap.size) : Sw w F F' := fun k hk => (h k hk).imp id fun h' => Nat.le_trans hs h'

set_option maxRecDepth 100000 in
set_option maxHeartbeats 2000000 in
theorem told_any (w : World) (D : Nat) (F : List Nat) (d : Dv) (h : Hd) (hk : h.ok) (hp : d.pend.length + 1 ≤ 1000000) (hd : DevAt w D F d) :
    Calls Tryz.prog 38 #[.pointer (some ⟨D, 0, none⟩), .agg h.cells] w fun x w' => x = .returned (.int .i64 (d.told h).1) ∧ DevTo w D F (d.told h).2 w' := by
  have HD := Lib.hid hd
  have HK := Lib.hid hk
  have h1 := hd.1.1
  have hlb := h.bytes_length hk
  have HT : Hid (d.told h = if (d.write 0 h.bytes).1 = 0 then (d.write 0 h.bytes).2.flush else d.write 0 h.bytes) := rfl
  have hpw := d.write_pend 0 h.bytes
  clear hk
  unfold Hd.cells
  go_enter Tryz.func38, Tryz.ntmps38
  go_wp2_with fail
  refine (bytes_any _ h HK.out).mono ?_
  rintro x w1 ⟨a, cap, rfl, ho, hx, hfr⟩
  have hx' : Ex [] w w1 := ((Ex.refl [] w).alloc _).pure hx
  have hoff : Off w1 (.slice a h.bytes.length cap) F := fun k hk' _ hm => by have := hfr k hk'; have := HD.out.lt k hm; simp at *; omega
  have HO := Lib.hid (And.intro ho (And.intro hx' hoff))
  clear ho hx hfr hx' hoff
  go_wp2_with fail
  refine (Write_any w1 D F d 0 _ h.bytes (by omega) (HD.out.pure HO.out.2.1) (by omega) (rd_of_owns HO.out.1) (by omega) HO.out.2.2).mono ?_
  rintro x w2 ⟨rfl, F2, hd2, hs2, hx2⟩
  have HX := Lib.hid (And.intro hs2 hx2)
  have HD2 := Lib.hid hd2
  clear hs2 hx2 hd2
  by_cases he : (d.write 0 h.bytes).1 = 0
  · have HE := Lib.hid he
    have he2 : (((d.write 0 h.bytes).1 : Int) == 0) = true := by rw [he]; rfl
    clear he
    simp only [Int.natCast_zero] at *
    go_wp2_with fail
    refine (Flush_any w2 D F2 _ (by omega) HD2.out).mono ?_
    rintro x w3 ⟨rfl, hd3⟩
    have HD3 := Lib.hid hd3
    clear hd3
    go_wp2_with fail
    go_ret
    rw [HT.out, if_pos HE.out]
    exact ⟨rfl, DevTo.trans (HX.out.1.mono_size HO.out.2.1.size) (HO.out.2.1.of_nil.trans HX.out.2 (Sw.refl _ _)) HD3.out⟩
  · have HE := Lib.hid he
    have he2 : (((d.write 0 h.bytes).1 : Int) == 0) = false := by simpa using he
    clear he
    simp only [Int.natCast_zero] at *
    go_wp2_with fail
    go_ret
    rw [HT.out, if_neg HE.out]
    exact ⟨rfl, F2, HD2.out, HX.out.1.mono_size HO.out.2.1.size, HO.out.2.1.of_nil.trans HX.out.2 (Sw.refl _ _)⟩

set_option maxRecDepth 100000 in
set_option maxHeartbeats 2000000 in
theorem fits_good (w : World) (D : Nat) (F : List Nat) (d : Dv) (L A Da : Nat) (hs : shapeOk L A Da) (hd : DevAt w D F d) (hn : sectorsS L A Da ≤ d.kept.length) :
    Calls Tryz.prog 37 #[.pointer (some ⟨D, 0, none⟩), .agg #[.int .i64 L, .int .i64 A, .int .i64 Da]] w fun x w' => x = .returned (.int .i64 0) ∧ Ex [] w w' := by
  have HD := Lib.hid hd
  have HS := Lib.hid hs
  have hk8 := hd.1.2.1
  have hk1 := hd.1.1
  obtain ⟨hL, hA, hDa, hT⟩ := hs
  have HR := Lib.hid (right_ok HS.out)
  clear hd
  go_enter Tryz.func37, Tryz.ntmps37
  go_wp2_with fail
  refine (Stat_any _ D F d (HD.out.pure ((Ex.refl [] w).alloc _))).mono ?_
  rintro x w1 ⟨⟨dd, rfl⟩, hx1⟩
  have c1 := fun j v h => hx1.cell (p := ⟨w.heap.size, j, none⟩) (v := v) (by simp) h
  have c10 := c1 0 _ (by rw [cell_of_block (heap_alloc_new w _)]; rfl)
  have c11 := c1 1 _ (by rw [cell_of_block (heap_alloc_new w _)]; rfl)
  have c12 := c1 2 _ (by rw [cell_of_block (heap_alloc_new w _)]; rfl)
  clear c1
  have HX1 := Lib.hid (((Ex.refl [] w).alloc (.cells #[.int .i64 L, .int .i64 A, .int .i64 Da] 23)).pure hx1)
  clear hx1
  have b0 : ((d.kept.length : Int) == 0) = false := by rw [beq_eq_false_iff_ne]; omega
  have hfs := field_stat
  go_wp2_with fail
  refine (Right_any _ L A Da (by omega) (by omega) (by omega)).mono ?_
  rintro x w2 ⟨rfl, hx2⟩
  rw [HR.out]
  have d10 := hx2.cell (by simp) c10
  have d11 := hx2.cell (by simp) c11
  have d12 := hx2.cell (by simp) c12
  have HX2 := Lib.hid hx2
  clear hx2 c10 c11 c12
  go_wp2_with fail
  refine (Sectors_any _ L A Da HS.out).mono ?_
  rintro x w3 ⟨rfl, hx3⟩
  have HX3 := Lib.hid hx3
  clear hx3
  go_wp2_with fail
  go_ret
  exact ⟨rfl, (HX1.out.pure HX2.out).pure HX3.out⟩

/-- A formatted device. -/
def Dv.format (d : Dv) : Nat × Dv := d.told ⟨0, 0, 0, 1⟩

set_option maxRecDepth 100000 in
set_option maxHeartbeats 2000000 in
theorem Format_good (w : World) (D : Nat) (F : List Nat) (d : Dv) (L A Da : Nat) (hs : shapeOk L A Da) (hd : DevAt w D F d) (hn : sectorsS L A Da ≤ d.kept.length) (hp : d.pend.length + 1 ≤ 1000000) :
    Calls Tryz.prog 11 #[.pointer (some ⟨D, 0, none⟩), .agg #[.int .i64 L, .int .i64 A, .int .i64 Da]] w fun x w' => x = .returned (.int .i64 d.format.1) ∧ DevTo w D F d.format.2 w' := by
  have HD := Lib.hid hd
  have HS := Lib.hid hs
  clear hd hs
  go_enter Tryz.func11, Tryz.ntmps11
  go_wp2_with fail
  refine (fits_good _ D F d L A Da HS.out (HD.out.pure ((Ex.refl [] w).alloc _)) hn).mono ?_
  rintro x w1 ⟨rfl, hx1⟩
  have HX1 := Lib.hid (((Ex.refl [] w).alloc (.cells #[.int .i64 L, .int .i64 A, .int .i64 Da] 23)).pure hx1)
  clear hx1
  go_wp2_with fail
  refine (told_any w1 D F d ⟨0, 0, 0, 1⟩ (by simp [Hd.ok]) hp (HD.out.pure HX1.out)).mono ?_
  rintro x w2 ⟨rfl, hd2⟩
  have HD2 := Lib.hid hd2
  clear hd2
  go_wp2_with fail
  go_ret
  exact ⟨rfl, DevTo.trans ((Sw.refl w F).trans (Sw.refl w1 F) HX1.out.size) HX1.out.of_nil HD2.out⟩
end Go.Proofs.YtckmpdplmpgniaaGreat
