/- Contracts of package log: opening. No condition but ranges. -/
import Derived.Test.YtckmpdplmpgniaaGreatLogE
namespace Go.Proofs.YtckmpdplmpgniaaGreat
open Go Go.RowKit

/-- A journal's cells. -/
def jcells (D : Nat) (h : Hd) (L A Da : Nat) (lost : Bool) : Array Value :=
  #[.int .i64 h.area, .int .i64 h.size, .int .i64 h.used, .int .i64 h.round, .int .i64 1, .int .i64 L, .int .i64 (1 + L : Nat), .int .i64 A, .int .i64 (1 + L + A : Nat), .int .i64 A, .int .i64 (1 + L + A + A : Nat), .int .i64 Da, .pointer (some ⟨D, 0, none⟩), .bool lost]

/-- A journal at a block. -/
def JnAt (w : World) (J D : Nat) (h : Hd) (L A Da : Nat) (lost : Bool) : Prop := w.heap[J]? = some (.cells (jcells D h L A Da lost) 99 (0, 0))

theorem txts_each (recs : List (List UInt8)) : (∀ t ∈ recs, t.length ≤ (txts recs).length) ∧ recs.length ≤ (txts recs).length := by
  induction recs with
  | nil => simp
  | cons x l ih =>
    have hp := txt_pos x
    have hx : x.length ≤ (txt x).length := by simp [txt]
    refine ⟨fun t ht => ?_, ?_⟩
    · rcases List.mem_cons.1 ht with rfl | ht
      · simp only [txts, List.length_append]; omega
      · have := ih.1 t ht; simp only [txts, List.length_append]; omega
    · have := ih.2; simp only [txts, List.length_append, List.length_cons]; omega

/-- What a device must show, to be opened: a head, and its records. -/
structure Shows (d : Dv) (L A Da : Nat) (h : Hd) (recs : List (List UInt8)) : Prop where
  ok : h.ok
  round : 1 ≤ h.round
  size : h.size ≤ A * 64
  used : h.used ≤ L * 64
  head : d.seen 0 = pad64 h.bytes
  log : d.bytes 1 h.used = txts recs

set_option maxRecDepth 100000 in
set_option maxHeartbeats 4000000 in
theorem Open_good (w : World) (D : Nat) (F : List Nat) (d : Dv) (L A Da : Nat) (h : Hd) (recs : List (List UInt8)) (hs : shapeOk L A Da) (hd : DevAt w D F d) (hu : d.down = false) (hp : d.pend.length ≤ 1000000) (hn : sectorsS L A Da ≤ d.kept.length) (hsh : Shows d L A Da h recs) :
    Calls Tryz.prog 12 #[.pointer (some ⟨D, 0, none⟩), .agg #[.int .i64 L, .int .i64 A, .int .i64 Da]] w fun x w' => ∃ J, x = .returned (.tuple #[.pointer (some ⟨J, 0, none⟩), .int .i64 0]) ∧ JnAt w' J D h L A Da false ∧ w.heap.size ≤ J ∧ Ex [] w w' := by
  have HD := Lib.hid hd
  have HU := Lib.hid hu
  have HS := Lib.hid hs
  have HSH := Lib.hid hsh
  have hk8 := hd.1.2.1
  obtain ⟨hL, hA, hDa, hT⟩ := hs
  have hn' : 1 + L + A + A + Da ≤ d.kept.length := hn
  have z1 := hsh.size
  have z2 := hsh.used
  clear hd hu hsh
  go_enter Tryz.func12, Tryz.ntmps12
  go_wp2_with fail
  refine (fits_good _ D F d L A Da HS.out (HD.out.pure ((Ex.refl [] w).alloc _)) hn).mono ?_
  rintro x w1 ⟨rfl, hx1⟩
  have hb1 := hx1.obj (heap_alloc_new w _) (by simp)
  have HX1 := Lib.hid (And.intro (((Ex.refl [] w).alloc (.cells #[.int .i64 L, .int .i64 A, .int .i64 Da] 23)).pure hx1) hb1)
  clear hx1 hb1
  go_wp2_with fail
  refine (Read_up w1 D F d 0 hp (HD.out.pure HX1.out.1) HU.out (by omega)).mono ?_
  rintro x w2 ⟨a2, cap2, rfl, ho2, hx2, hf2⟩
  rw [HSH.out.head] at ho2
  have hb2 := hx2.obj HX1.out.2 (by simp)
  have hrd2 : RdB w2 (.slice a2 64 cap2) (pad64 h.bytes) := by
    have := rd_of_owns ho2
    unfold RdB
    rw [pad64_length _ (by have := h.bytes_length HSH.out.ok; omega)]
    exact this
  have s0 : w2.cell? ⟨w.heap.size, 0, none⟩ = some (.int .i64 L) := by rw [cell_of_block hb2]; rfl
  have s1 : w2.cell? ⟨w.heap.size, 1, none⟩ = some (.int .i64 A) := by rw [cell_of_block hb2]; rfl
  have s2 : w2.cell? ⟨w.heap.size, 2, none⟩ = some (.int .i64 Da) := by rw [cell_of_block hb2]; rfl
  have HX2 := Lib.hid (And.intro (HX1.out.1.pure hx2) hrd2)
  clear ho2 hx2 hf2 hb2 hrd2
  go_wp2_with fail
  refine (laid_any w2 L A Da HS.out).mono ?_
  rintro x w3 ⟨rfl, hx3⟩
  have HX3 := Lib.hid (And.intro (HX2.out.1.pure hx3) (HX2.out.2.pure hx3))
  clear hx3 s0 s1 s2
  unfold layoutC
  go_wp2_with fail
  refine (headed_good _ _ h HSH.out.ok HSH.out.round (HX3.out.2.pure ((Ex.refl [] w3).alloc _))).mono ?_
  rintro x w4 ⟨rfl, hx4⟩
  have hb4 := hx4.obj (heap_alloc_new w3 _) (by simp)
  have HX4 := Lib.hid (And.intro ((HX3.out.1.alloc _).pure hx4) hb4)
  clear hx4 hb4
  have e0 : w4.cell? ⟨w3.heap.size, 0, none⟩ = some (.int .i64 1) := by rw [cell_of_block HX4.out.2]; rfl
  have e1 : w4.cell? ⟨w3.heap.size, 1, none⟩ = some (.int .i64 L) := by rw [cell_of_block HX4.out.2]; rfl
  have e2 : w4.cell? ⟨w3.heap.size, 2, none⟩ = some (.int .i64 (1 + (L : Int))) := by rw [cell_of_block HX4.out.2]; rfl
  have e3 : w4.cell? ⟨w3.heap.size, 3, none⟩ = some (.int .i64 A) := by rw [cell_of_block HX4.out.2]; rfl
  have e4 : w4.cell? ⟨w3.heap.size, 4, none⟩ = some (.int .i64 (1 + (L : Int) + A)) := by rw [cell_of_block HX4.out.2]; rfl
  have e5 : w4.cell? ⟨w3.heap.size, 5, none⟩ = some (.int .i64 A) := by rw [cell_of_block HX4.out.2]; rfl
  have e6 : w4.cell? ⟨w3.heap.size, 6, none⟩ = some (.int .i64 (1 + (L : Int) + A + A)) := by rw [cell_of_block HX4.out.2]; rfl
  have e7 : w4.cell? ⟨w3.heap.size, 7, none⟩ = some (.int .i64 Da) := by rw [cell_of_block HX4.out.2]; rfl
  have hlt43 : w3.heap.size < w4.heap.size := lt_of_block HX4.out.2
  have k1 : decide ((A : Int) * 64 < (h.size : Int)) = false := by rw [decide_eq_false_iff_not]; omega
  have k2 : decide ((L : Int) * 64 < (h.used : Int)) = false := by rw [decide_eq_false_iff_not]; omega
  have k3 : (h.size : Int) ≤ (A : Int) * 64 := by omega
  have k4 : (h.used : Int) ≤ (L : Int) * 64 := by omega
  unfold Hd.cells
  go_wp2_with fail
  have hx5 : Ex [] w4 (w4.alloc (.cells #[.int .i64 h.area, .int .i64 h.size, .int .i64 h.used, .int .i64 h.round] 90)) := (Ex.refl [] w4).alloc _
  have hb5 := heap_alloc_new w4 (.cells #[.int .i64 h.area, .int .i64 h.size, .int .i64 h.used, .int .i64 h.round] 90)
  have c0 := hx5.cell (by simp) e0
  have c1 := hx5.cell (by simp) e1
  have c2 := hx5.cell (by simp) e2
  have c3 := hx5.cell (by simp) e3
  have c4 := hx5.cell (by simp) e4
  have c5 := hx5.cell (by simp) e5
  have c6 := hx5.cell (by simp) e6
  have c7 := hx5.cell (by simp) e7
  have d0 : (w4.alloc (.cells #[.int .i64 h.area, .int .i64 h.size, .int .i64 h.used, .int .i64 h.round] 90)).cell? ⟨w4.heap.size, 0, none⟩ = some (.int .i64 h.area) := by rw [cell_of_block hb5]; rfl
  have d1 : (w4.alloc (.cells #[.int .i64 h.area, .int .i64 h.size, .int .i64 h.used, .int .i64 h.round] 90)).cell? ⟨w4.heap.size, 1, none⟩ = some (.int .i64 h.size) := by rw [cell_of_block hb5]; rfl
  have d2 : (w4.alloc (.cells #[.int .i64 h.area, .int .i64 h.size, .int .i64 h.used, .int .i64 h.round] 90)).cell? ⟨w4.heap.size, 2, none⟩ = some (.int .i64 h.used) := by rw [cell_of_block hb5]; rfl
  have d3 : (w4.alloc (.cells #[.int .i64 h.area, .int .i64 h.size, .int .i64 h.used, .int .i64 h.round] 90)).cell? ⟨w4.heap.size, 3, none⟩ = some (.int .i64 h.round) := by rw [cell_of_block hb5]; rfl
  have HX5 := Lib.hid (HX4.out.1.pure hx5)
  clear e0 e1 e2 e3 e4 e5 e6 e7 hx5 hb5
  generalize hW5 : w4.alloc (.cells #[.int .i64 h.area, .int .i64 h.size, .int .i64 h.used, .int .i64 h.round] 90) = w5 at *
  go_region_held3 (fun w' => w'.cell? ⟨w4.heap.size, 1, none⟩ = some (.int .i64 h.size) ∧ w'.cell? ⟨w4.heap.size, 2, none⟩ = some (.int .i64 h.used) ∧ w'.cell? ⟨w3.heap.size, 0, none⟩ = some (.int .i64 1) ∧ w'.cell? ⟨w3.heap.size, 1, none⟩ = some (.int .i64 L) ∧ w'.cell? ⟨w3.heap.size, 2, none⟩ = some (.int .i64 (1 + (L : Int))) ∧ w'.cell? ⟨w3.heap.size, 3, none⟩ = some (.int .i64 A)) (go_keep)
    (first | (go_at_call 41; with_reducible refine (size_any _ _ A (by omega)).mono ?_; rintro x w' ⟨rfl, rfl⟩) | (go_at_call 41; with_reducible refine (size_any _ _ L (by omega)).mono ?_; rintro x w' ⟨rfl, rfl⟩))
  have hx6 : Ex [] w5 ((w5.alloc (.cells #[.int .i64 (1 + (L : Int)), .int .i64 A] 82)).alloc (.cells #[.int .i64 1, .int .i64 L] 82)).drew := (((Ex.refl [] w5).alloc _).alloc _).drew
  have gc0 := hx6.cell (by simp) c0
  have gc1 := hx6.cell (by simp) c1
  have gc2 := hx6.cell (by simp) c2
  have gc3 := hx6.cell (by simp) c3
  have gc4 := hx6.cell (by simp) c4
  have gc5 := hx6.cell (by simp) c5
  have gc6 := hx6.cell (by simp) c6
  have gc7 := hx6.cell (by simp) c7
  have gd0 := hx6.cell (by simp) d0
  have gd1 := hx6.cell (by simp) d1
  have gd2 := hx6.cell (by simp) d2
  have gd3 := hx6.cell (by simp) d3
  clear c0 c1 c2 c3 c4 c5 c6 c7 d0 d1 d2 d3
  have HX6 := Lib.hid (HX5.out.pure hx6)
  clear hx6
  generalize ((w5.alloc (.cells #[.int .i64 (1 + (L : Int)), .int .i64 A] 82)).alloc (.cells #[.int .i64 1, .int .i64 L] 82)).drew = w6 at *
  go_wp2_with fail
  refine (read_up w6 D F d 1 L h.used (HD.out.pure HX6.out) HU.out hp (by omega)).mono ?_
  rintro x w7 ⟨a7, cap7, rfl, hr7, hx7, hf7, hl7, hfl7⟩
  have kc0 := hx7.cell (by simp) gc0
  have kc1 := hx7.cell (by simp) gc1
  have kc2 := hx7.cell (by simp) gc2
  have kc3 := hx7.cell (by simp) gc3
  have kc4 := hx7.cell (by simp) gc4
  have kc5 := hx7.cell (by simp) gc5
  have kc6 := hx7.cell (by simp) gc6
  have kc7 := hx7.cell (by simp) gc7
  have kd0 := hx7.cell (by simp) gd0
  have kd1 := hx7.cell (by simp) gd1
  have kd2 := hx7.cell (by simp) gd2
  have kd3 := hx7.cell (by simp) gd3
  clear gc0 gc1 gc2 gc3 gc4 gc5 gc6 gc7 gd0 gd1 gd2 gd3
  have HX7 := Lib.hid (And.intro (HX6.out.pure hx7) (And.intro hr7 hl7))
  clear hx7 hr7 hl7 hf7 hfl7
  go_wp2_with fail
  have htl : (txts recs).length = h.used := by rw [← HSH.out.log]; exact HX7.out.2.2
  refine (texts_good w7 (d.bytes 1 h.used) _ HX7.out.2.1 recs HSH.out.log (by rw [HX7.out.2.2]; omega) (by have := (txts_each recs).2; omega) (fun t ht => by have := (txts_each recs).1 t ht; omega)).mono ?_
  rintro x w8 ⟨u8, ts8, rfl, _, _, hx8⟩
  have mc0 := hx8.cell (by simp) kc0
  have mc1 := hx8.cell (by simp) kc1
  have mc2 := hx8.cell (by simp) kc2
  have mc3 := hx8.cell (by simp) kc3
  have mc4 := hx8.cell (by simp) kc4
  have mc5 := hx8.cell (by simp) kc5
  have mc6 := hx8.cell (by simp) kc6
  have mc7 := hx8.cell (by simp) kc7
  have md0 := hx8.cell (by simp) kd0
  have md1 := hx8.cell (by simp) kd1
  have md2 := hx8.cell (by simp) kd2
  have md3 := hx8.cell (by simp) kd3
  clear kc0 kc1 kc2 kc3 kc4 kc5 kc6 kc7 kd0 kd1 kd2 kd3
  have HX8 := Lib.hid (HX7.out.1.pure hx8)
  clear hx8 htl
  go_wp2_with fail
  go_ret2
  exact ⟨_, rfl, heap_alloc_new w8 _, HX8.out.size, HX8.out.alloc _⟩
end Go.Proofs.YtckmpdplmpgniaaGreat
