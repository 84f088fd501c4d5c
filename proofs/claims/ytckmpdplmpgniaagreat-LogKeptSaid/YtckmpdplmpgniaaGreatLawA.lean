/- Contracts of the law's own functions: a device and a journal, and the document's, at the chapter's example. No condition but ranges. -/
import Derived.Test.YtckmpdplmpgniaaGreatRefG
import Derived.Test.YtckmpdplmpgniaaGreatLogM
import Derived.Test.YtckmpdplmpgniaaGreatKit
namespace Go.Proofs.YtckmpdplmpgniaaGreat
open Go Go.RowKit

/-- Both at a block. -/
def Bt (w : World) (P D E : Nat) (jv rv : Value) : Prop := w.heap[P]? = some (.cells #[.int .i64 2, .int .i64 1, .int .i64 1, .pointer (some ⟨D, 0, none⟩), jv, .pointer (some ⟨E, 0, none⟩), rv] 71 (0, 0))

theorem Bt.cells {w : World} {P D E : Nat} {jv rv : Value} (h : Bt w P D E jv rv) : w.cell? ⟨P, 0, none⟩ = some (.int .i64 2) ∧ w.cell? ⟨P, 1, none⟩ = some (.int .i64 1) ∧ w.cell? ⟨P, 2, none⟩ = some (.int .i64 1) ∧ w.cell? ⟨P, 3, none⟩ = some (.pointer (some ⟨D, 0, none⟩)) ∧ w.cell? ⟨P, 4, none⟩ = some jv ∧ w.cell? ⟨P, 5, none⟩ = some (.pointer (some ⟨E, 0, none⟩)) ∧ w.cell? ⟨P, 6, none⟩ = some rv := by
  refine ⟨?_, ?_, ?_, ?_, ?_, ?_, ?_⟩ <;> (rw [cell_of_block h]; rfl)

theorem ex_ok : shapeOk 2 1 1 := by unfold shapeOk; omega

set_option maxRecDepth 100000 in
set_option maxHeartbeats 4000000 in
theorem reopened_ex (w : World) (P D E : Nat) (jv rv : Value) (F : List Nat) (d : Dv) (h : Hd) (recs : List (List UInt8)) (hb : Bt w P D E jv rv) (hd : DevAt w D F d) (hu : d.down = false) (hp : d.pend.length ≤ 1000000) (hn : 6 ≤ d.kept.length) (hsh : Shows d 2 1 1 h recs) :
    Calls Tryz.prog 32 #[.pointer (some ⟨P, 0, none⟩)] w fun x w' => x = .returned (.bool true) ∧ ∃ J, Bt w' P D E (.pointer (some ⟨J, 0, none⟩)) rv ∧ JnAt w' J D h 2 1 1 false ∧ w.heap.size ≤ J ∧ Ex [P] w w' := by
  have HB := Lib.hid hb
  have HD := Lib.hid hd
  obtain ⟨c0, c1, c2, c3, c4, c5, c6⟩ := hb.cells
  have hP := lt_of_block hb
  clear hb hd
  go_enter Tryz.func32, Tryz.ntmps32
  go_wp2_with fail
  go_region_held3 (fun w' => w'.cell? ⟨P, 0, none⟩ = some (.int .i64 2) ∧ w'.cell? ⟨P, 1, none⟩ = some (.int .i64 1) ∧ w'.cell? ⟨P, 2, none⟩ = some (.int .i64 1) ∧ w'.cell? ⟨P, 3, none⟩ = some (.pointer (some ⟨D, 0, none⟩))) (first | (refine ⟨?_, ?_, ?_, ?_⟩ <;> assumption) | (go_keep; done))
    (first | (go_at_call 12; refine (Open_good w.drew D F d 2 1 1 h recs ex_ok (HD.out.pure ((Ex.refl [] w).drew)) hu hp hn hsh).mono ?_; rintro x w1 ⟨J, rfl, hj1, hJ1, hx1⟩; have m0 := hx1.cell (by simp) (show w.drew.cell? _ = _ from c0); have m1 := hx1.cell (by simp) (show w.drew.cell? ⟨P, 1, none⟩ = _ from c1); have m2 := hx1.cell (by simp) (show w.drew.cell? ⟨P, 2, none⟩ = _ from c2); have m3 := hx1.cell (by simp) (show w.drew.cell? ⟨P, 3, none⟩ = _ from c3); have H1 := Lib.hid (And.intro hj1 (And.intro hJ1 (((Ex.refl [] w).drew).pure hx1))); clear hj1 hJ1 hx1))
  have hb1 : Bt w1 P D E jv rv := H1.out.2.2.obj HB.out (by simp)
  have f4 : w1.frozen? ⟨P, 4, none⟩ = false := free_of_block hb1
  have m4 := hb1.cells.2.2.2.2.1
  have HB1 := Lib.hid hb1
  clear hb1
  go_wp2_with fail
  go_ret
  have hJP : J ≠ P := fun e => by have h0 := H1.out.2.1; simp at h0; omega
  refine ⟨rfl, J, block_setCell (j := 4) HB1.out, ?_, H1.out.2.1, (H1.out.2.2.of_nil).trans ((Ex.refl [P] w1).setCell (.inl (by simp)) _) (Sw.refl _ _)⟩
  exact H1.out.1.pure ((Ex.refl [P] w1).setCell (.inl (by simp)) _) (by simp [hJP])

set_option maxRecDepth 100000 in
set_option maxHeartbeats 4000000 in
theorem opened_ex (w : World) (P D E dd : Nat) (jv rv : Value) (F FE : List Nat) (d : Dv) (h : Hd) (recs : List (List UInt8)) (hb : Bt w P D E jv rv) (hd : DevAt w D F d) (hr : RD0 w E FE exAll dd) (hu : d.down = false) (hp : d.pend.length ≤ 1000000) (hn : 6 ≤ d.kept.length) (hsh : Shows d 2 1 1 h recs) :
    Calls Tryz.prog 68 #[.pointer (some ⟨P, 0, none⟩)] w fun x w' => x = .returned (.bool true) ∧ ∃ J R, Bt w' P D E (.pointer (some ⟨J, 0, none⟩)) (.pointer (some ⟨R, 0, none⟩)) ∧ JnAt w' J D h 2 1 1 false ∧ w.heap.size ≤ J ∧ Ex [P] w w' := by
  have HB := Lib.hid hb
  have HD := Lib.hid hd
  have HR := Lib.hid hr
  obtain ⟨c0, c1, c2, c3, c4, c5, c6⟩ := hb.cells
  have hP := lt_of_block hb
  clear hb hd hr
  go_enter Tryz.func68, Tryz.ntmps68
  go_wp2_with fail
  go_region_held3 (fun w' => w'.cell? ⟨P, 0, none⟩ = some (.int .i64 2) ∧ w'.cell? ⟨P, 1, none⟩ = some (.int .i64 1) ∧ w'.cell? ⟨P, 2, none⟩ = some (.int .i64 1) ∧ w'.cell? ⟨P, 3, none⟩ = some (.pointer (some ⟨D, 0, none⟩))) (first | (refine ⟨?_, ?_, ?_, ?_⟩ <;> assumption) | (go_keep; done))
    (first | (go_at_call 12; refine (Open_good w.drew D F d 2 1 1 h recs ex_ok (HD.out.pure ((Ex.refl [] w).drew)) hu hp hn hsh).mono ?_; rintro x w1 ⟨J, rfl, hj1, hJ1, hx1⟩; have m0 := hx1.cell (by simp) (show w.drew.cell? _ = _ from c0); have m1 := hx1.cell (by simp) (show w.drew.cell? ⟨P, 1, none⟩ = _ from c1); have m2 := hx1.cell (by simp) (show w.drew.cell? ⟨P, 2, none⟩ = _ from c2); have m3 := hx1.cell (by simp) (show w.drew.cell? ⟨P, 3, none⟩ = _ from c3); have H1 := Lib.hid (And.intro hj1 (And.intro hJ1 (((Ex.refl [] w).drew).pure hx1))); clear hj1 hJ1 hx1))
  have hb1 : Bt w1 P D E jv rv := H1.out.2.2.obj HB.out (by simp)
  have m5 := hb1.cells.2.2.2.2.2.1
  have HB1 := Lib.hid hb1
  clear hb1 c0 c1 c2 c3 c4 c5 c6
  have hrop := rOpen_ex w1.drew E dd FE (HR.out.pure H1.out.2.2.drew)
  unfold exShape at hrop
  have HRO := Lib.hid hrop
  clear hrop
  go_wp2_with fail
  go_region_held3 (fun w' => w'.cell? ⟨P, 0, none⟩ = some (.int .i64 2) ∧ w'.cell? ⟨P, 1, none⟩ = some (.int .i64 1) ∧ w'.cell? ⟨P, 2, none⟩ = some (.int .i64 1) ∧ w'.cell? ⟨P, 5, none⟩ = some (.pointer (some ⟨E, 0, none⟩))) (first | (refine ⟨?_, ?_, ?_, ?_⟩ <;> assumption) | (go_keep; done))
    (first | (go_at_call 101; refine (HRO.out).mono ?_; rintro x w2 ⟨R, rfl, hx2⟩; have n0 := hx2.cell (by simp) (show w1.drew.cell? _ = _ from m0); have n1 := hx2.cell (by simp) (show w1.drew.cell? ⟨P, 1, none⟩ = _ from m1); have n2 := hx2.cell (by simp) (show w1.drew.cell? ⟨P, 2, none⟩ = _ from m2); have n5 := hx2.cell (by simp) (show w1.drew.cell? ⟨P, 5, none⟩ = _ from m5); have H2 := Lib.hid (((Ex.refl [] w1).drew).pure hx2); clear hx2))
  have hb2 : Bt w2 P D E jv rv := H2.out.obj HB1.out (by simp)
  have f4 : w2.frozen? ⟨P, 4, none⟩ = false := free_of_block hb2
  have f6 : w2.frozen? ⟨P, 6, none⟩ = false := free_of_block hb2
  have n4 := hb2.cells.2.2.2.2.1
  have n6 := hb2.cells.2.2.2.2.2.2
  have HB2 := Lib.hid hb2
  clear hb2 m0 m1 m2 m3 m5
  go_wp2_with fail
  go_ret
  have hJP : J ≠ P := fun e => by have h0 := H1.out.2.1; simp at h0; omega
  have hx3 : Ex [P] w2 ((w2.setCell ⟨P, 4, none⟩ (.pointer (some ⟨J, 0, none⟩))).setCell ⟨P, 6, none⟩ (.pointer (some ⟨R, 0, none⟩))) := ((Ex.refl [P] w2).setCell (.inl (by simp)) _).setCell (.inl (by simp)) _
  refine ⟨rfl, J, R, block_setCell (j := 6) (block_setCell (j := 4) HB2.out), (H1.out.1.pure H2.out (by simp)).pure hx3 (by simp [hJP]), H1.out.2.1, (H1.out.2.2.pure H2.out).of_nil.trans hx3 (Sw.refl _ _)⟩
end Go.Proofs.YtckmpdplmpgniaaGreat
