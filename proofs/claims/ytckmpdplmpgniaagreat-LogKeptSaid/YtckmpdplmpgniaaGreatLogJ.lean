/- Contracts of package log: the head that counts. No condition but ranges. -/
import Derived.Test.YtckmpdplmpgniaaGreatLogI
namespace Go.Proofs.YtckmpdplmpgniaaGreat
open Go Go.RowKit

/-- The head of the next round. -/
def Hd.next (h : Hd) (a s u : Nat) : Hd := ⟨a, s, u, h.round + 1⟩

set_option maxHeartbeats 1000000 in
theorem next_head (w : World) (h : Hd) (a s u : Nat) (hr : h.round ≤ 1099511627776) :
    Calls Tryz.prog 52 #[.agg h.cells, .int .i64 a, .int .i64 s, .int .i64 u] w fun x w' => x = .returned (.agg (h.next a s u).cells) ∧ w' = (w.alloc (.cells h.cells 90)).alloc (.cells (h.next a s u).cells 90) := by
  have e : (((h.round + 1 : Nat)) : Int) = (h.round : Int) + 1 := by omega
  have HE := Lib.hid e
  clear e
  unfold Hd.next Hd.cells
  go_enter Tryz.func52, Tryz.ntmps52
  go_wp2
  exact bodyPost_ret (v := .agg #[.int .i64 a, .int .i64 s, .int .i64 u, .int .i64 (h.round + 1 : Int)]) (by simp [results, Tryz.results52, go_sem]) rfl ⟨rfl, rfl⟩

/-- What count does: the device, and whether it went well. -/
def Dv.count (d : Dv) (h : Hd) : Nat × Dv := if d.flush.1 = 0 then d.flush.2.told h else d.flush

/-- What count tells, and leaves. -/
def Counted (w : World) (J D L A Da : Nat) (F : List Nat) (h g : Hd) (p : Nat × Dv) (x : Ending) (w' : World) : Prop :=
  x = .returned (.int .i64 p.1) ∧ (∃ F', DevAt w' D F' p.2 ∧ Sw w F F' ∧ J ∉ F') ∧ JnAt w' J D (if p.1 = 0 then g else h) L A Da (decide (p.1 ≠ 0)) ∧ Ex (J :: F) w w'

set_option maxRecDepth 100000 in
set_option maxHeartbeats 4000000 in
theorem count_ok (w : World) (J D L A Da : Nat) (F : List Nat) (d : Dv) (h g : Hd) (hj : JnAt w J D h L A Da false) (hd : DevAt w D F d) (hJF : J ∉ F) (hg : g.ok) (hp : d.pend.length ≤ 1000000) :
    Calls Tryz.prog 50 #[.pointer (some ⟨J, 0, none⟩), .int .i64 0, .agg g.cells] w (Counted w J D L A Da F h g (d.count g)) := by
  have HJ := Lib.hid hj
  have HD := Lib.hid hd
  have HG := Lib.hid hg
  have hJlt := lt_of_block hj
  have c12 : w.cell? ⟨J, 12, none⟩ = some (.pointer (some ⟨D, 0, none⟩)) := by rw [cell_of_block hj]; rfl
  have HX0 := Lib.hid ((Ex.refl [] w).alloc (.cells g.cells 90))
  have HC : Hid (d.count g = if d.flush.1 = 0 then d.flush.2.told g else d.flush) := rfl
  have hDF := hd.lt
  have HDF := Lib.hid hDF
  clear hj hd hg hDF
  go_enter Tryz.func50, Tryz.ntmps50
  unfold Hd.cells at *
  go_wp2_with fail
  refine (Flush_any _ D F d hp (HD.out.pure HX0.out)).mono ?_
  rintro x w1 ⟨rfl, F1, hd1, hs1, hx1⟩
  have hs1' : Sw w F F1 := hs1.mono_size HX0.out.size
  have hJ1 : J ∉ F1 := fun hm => (hs1' J hm).elim hJF (fun h => by omega)
  have hx1' : Ex F w w1 := HX0.out.of_nil.trans hx1 (Sw.refl _ _)
  have hb1 := hx1.obj (heap_alloc_new w (.cells #[.int .i64 g.area, .int .i64 g.size, .int .i64 g.used, .int .i64 g.round] 90)) (fun hm => by have := HDF.out _ hm; omega)
  have hj1 := HJ.out.pure hx1' hJF
  have hni : w.heap.size ∉ F1 := fun hm => (hs1 _ hm).elim (fun h => by have := HDF.out _ h; omega) (fun h => by simp at h; omega)
  by_cases he : d.flush.1 = 0
  · have he1 : ((d.flush.1 : Int) == 0) = true := by rw [he]; rfl
    have HE := Lib.hid he
    have hpend : d.flush.2.pend.length + 1 ≤ 1000000 := by
      unfold Dv.flush at he ⊢
      split at he
      · simp at he
      · rename_i h1
        rw [if_neg h1]
        split at he
        · simp at he
        · rename_i h2
          rw [if_neg h2]
          simp [Dv.settle]
    have hc1 : w1.cell? ⟨J, 12, none⟩ = some (.pointer (some ⟨D, 0, none⟩)) := hx1'.cell hJF c12
    have b0 : w1.cell? ⟨w.heap.size, 0, none⟩ = some (.int .i64 g.area) := by rw [cell_of_block hb1]; rfl
    have b1 : w1.cell? ⟨w.heap.size, 1, none⟩ = some (.int .i64 g.size) := by rw [cell_of_block hb1]; rfl
    have b2 : w1.cell? ⟨w.heap.size, 2, none⟩ = some (.int .i64 g.used) := by rw [cell_of_block hb1]; rfl
    have b3 : w1.cell? ⟨w.heap.size, 3, none⟩ = some (.int .i64 g.round) := by rw [cell_of_block hb1]; rfl
    have H1 := Lib.hid (And.intro hd1 (And.intro hs1' (And.intro hJ1 (And.intro hx1' (And.intro hj1 hb1)))))
    clear hd1 hs1 hs1' hJ1 hx1 hx1' hj1 hb1 he c12
    go_wp2_with fail
    go_region_held3 (fun w' => w'.cell? ⟨J, 12, none⟩ = some (.pointer (some ⟨D, 0, none⟩)) ∧ w'.cell? ⟨w.heap.size, 0, none⟩ = some (.int .i64 g.area) ∧ w'.cell? ⟨w.heap.size, 1, none⟩ = some (.int .i64 g.size) ∧ w'.cell? ⟨w.heap.size, 2, none⟩ = some (.int .i64 g.used) ∧ w'.cell? ⟨w.heap.size, 3, none⟩ = some (.int .i64 g.round)) (first | (simp [*]; done) | (refine ⟨?_, ?_, ?_, ?_, ?_⟩ <;> assumption))
      (first | (go_at_call 38; refine (told_any w1.drew D F1 d.flush.2 g HG.out hpend (H1.out.1.pure ((Ex.refl [] w1).drew))).mono ?_; rintro x w2 ⟨rfl, F2, hd2, hs2, hx2⟩; have k12 := hx2.cell H1.out.2.2.1 (show w1.drew.cell? _ = _ from hc1); have k0 := hx2.cell hni (show w1.drew.cell? ⟨w.heap.size, 0, none⟩ = _ from b0); have k1 := hx2.cell hni (show w1.drew.cell? ⟨w.heap.size, 1, none⟩ = _ from b1); have k2 := hx2.cell hni (show w1.drew.cell? ⟨w.heap.size, 2, none⟩ = _ from b2); have k3 := hx2.cell hni (show w1.drew.cell? ⟨w.heap.size, 3, none⟩ = _ from b3)))
    have hx2' : Ex F1 w1 w2 := ((Ex.refl F1 w1).drew).trans hx2 (Sw.refl _ _)
    have hs2' : Sw w F F2 := H1.out.2.1.trans (hs2 : Sw w1 F1 F2) H1.out.2.2.2.1.size
    have hJ2 : J ∉ F2 := fun hm => (hs2' J hm).elim hJF (fun h => by omega)
    have hxw : Ex F w w2 := H1.out.2.2.2.1.trans hx2' H1.out.2.1
    have hj2 := H1.out.2.2.2.2.1.pure hx2' H1.out.2.2.1
    have HS : Hid (d.count g = d.flush.2.told g) := by show _ = _; rw [HC.out, if_pos HE.out]
    have H2 := Lib.hid (And.intro hd2 (And.intro hs2' (And.intro hJ2 (And.intro hxw hj2))))
    clear hd2 hs2 hs2' hJ2 hx2 hx2' hxw hj2 k12 hc1 b0 b1 b2 b3
    generalize d.flush.2.told g = p at *
    go_wp2_with fail
    refine (note_any w2 J D L A Da h false p.1 H2.out.2.2.2.2).mono ?_
    rintro x w3 ⟨rfl, hj3, hx3⟩
    have hni3 : w.heap.size ∉ [J] := by simp; omega
    have m0 := hx3.cell (p := ⟨w.heap.size, 0, none⟩) hni3 k0
    have m1 := hx3.cell (p := ⟨w.heap.size, 1, none⟩) hni3 k1
    have m2 := hx3.cell (p := ⟨w.heap.size, 2, none⟩) hni3 k2
    have m3 := hx3.cell (p := ⟨w.heap.size, 3, none⟩) hni3 k3
    have hd3 := H2.out.1.ex hx3 (fun k hk hm => by simp at hm; subst hm; exact H2.out.2.2.1 hk)
    have hxw3 : Ex (J :: F) w w3 := (H2.out.2.2.2.1.weaken (F' := J :: F) (fun k hk => by simp [hk])).trans hx3 (fun k hk => by simp at hk; subst hk; exact .inl (by simp))
    rw [Bool.false_or] at hj3
    by_cases hp0 : p.1 = 0
    · have hp1 : ((p.1 : Int) == 0) = true := by rw [hp0]; rfl
      have q0 : w3.cell? ⟨J, 0, none⟩ = some (.int .i64 h.area) := by rw [cell_of_block hj3]; rfl
      have q1 : w3.cell? ⟨J, 1, none⟩ = some (.int .i64 h.size) := by rw [cell_of_block hj3]; rfl
      have q2 : w3.cell? ⟨J, 2, none⟩ = some (.int .i64 h.used) := by rw [cell_of_block hj3]; rfl
      have q3 : w3.cell? ⟨J, 3, none⟩ = some (.int .i64 h.round) := by rw [cell_of_block hj3]; rfl
      have f0 : w3.frozen? ⟨J, 0, none⟩ = false := free_of_block hj3
      have f1 : w3.frozen? ⟨J, 1, none⟩ = false := free_of_block hj3
      have f2 : w3.frozen? ⟨J, 2, none⟩ = false := free_of_block hj3
      have f3 : w3.frozen? ⟨J, 3, none⟩ = false := free_of_block hj3
      have H3 := Lib.hid (And.intro hd3 (And.intro hxw3 (And.intro hj3 hp0)))
      clear hd3 hxw3 hj3 hx3 hp0 k0 k1 k2 k3
      go_wp2_with fail
      go_ret
      obtain ⟨hd3, hxw3, hj3, hp0⟩ := H3.out
      rw [HS.out]
      have hy : Ex [J] w3 ((((w3.setCell ⟨J, 0, none⟩ (.int .i64 g.area)).setCell ⟨J, 1, none⟩ (.int .i64 g.size)).setCell ⟨J, 2, none⟩ (.int .i64 g.used)).setCell ⟨J, 3, none⟩ (.int .i64 g.round)) := ((((Ex.refl [J] w3).setCell (.inl (by simp)) _).setCell (.inl (by simp)) _).setCell (.inl (by simp)) _).setCell (.inl (by simp)) _
      unfold Counted
      rw [hp0]
      refine ⟨rfl, ⟨F2, hd3.ex hy (fun k hk hm => by simp at hm; subst hm; exact H2.out.2.2.1 hk), H2.out.2.1, H2.out.2.2.1⟩, ?_, hxw3.trans hy (fun k hk => by simp at hk; subst hk; exact .inl (by simp))⟩
      rw [hp0] at hj3
      have hb := block_setCell (j := 3) (u := .int .i64 g.round) (block_setCell (j := 2) (u := .int .i64 g.used) (block_setCell (j := 1) (u := .int .i64 g.size) (block_setCell (j := 0) (u := .int .i64 g.area) hj3)))
      exact hb
    · have hp1 : ((p.1 : Int) == 0) = false := by simpa using hp0
      have H3 := Lib.hid (And.intro hd3 (And.intro hxw3 (And.intro hj3 hp0)))
      clear hd3 hxw3 hj3 hx3 hp0 k0 k1 k2 k3 m0 m1 m2 m3
      go_wp2_with fail
      go_ret
      obtain ⟨hd3, hxw3, hj3, hp0⟩ := H3.out
      rw [HS.out]
      exact ⟨rfl, ⟨F2, hd3, H2.out.2.1, H2.out.2.2.1⟩, by rw [if_neg hp0]; exact hj3, hxw3⟩
  · have he1 : ((d.flush.1 : Int) == 0) = false := by simpa using he
    have HE := Lib.hid he
    have HS : Hid (d.count g = d.flush) := by show _ = _; rw [HC.out, if_neg HE.out]
    have H1 := Lib.hid (And.intro hd1 (And.intro hs1' (And.intro hJ1 (And.intro hx1' hj1))))
    clear hd1 hs1 hs1' hJ1 hx1 hx1' hj1 hb1 he c12
    go_wp2_with fail
    refine (note_any w1 J D L A Da h false d.flush.1 H1.out.2.2.2.2).mono ?_
    rintro x w3 ⟨rfl, hj3, hx3⟩
    have hd3 := H1.out.1.ex hx3 (fun k hk hm => by simp at hm; subst hm; exact H1.out.2.2.1 hk)
    have hxw3 : Ex (J :: F) w w3 := (H1.out.2.2.2.1.weaken (F' := J :: F) (fun k hk => by simp [hk])).trans hx3 (fun k hk => by simp at hk; subst hk; exact .inl (by simp))
    rw [Bool.false_or] at hj3
    have H3 := Lib.hid (And.intro hd3 (And.intro hxw3 hj3))
    clear hd3 hxw3 hj3 hx3
    go_wp2_with fail
    go_ret
    obtain ⟨hd3, hxw3, hj3⟩ := H3.out
    rw [HS.out]
    exact ⟨rfl, ⟨F1, hd3, H1.out.2.1, H1.out.2.2.1⟩, by rw [if_neg HE.out]; exact hj3, hxw3⟩

set_option maxHeartbeats 2000000 in
theorem count_bad (w : World) (J D L A Da : Nat) (h g : Hd) (e : Nat) (he : e ≠ 0) (hj : JnAt w J D h L A Da false) :
    Calls Tryz.prog 50 #[.pointer (some ⟨J, 0, none⟩), .int .i64 e, .agg g.cells] w fun x w' => x = .returned (.int .i64 e) ∧ JnAt w' J D h L A Da true ∧ Ex [J] w w' := by
  have HJ := Lib.hid hj
  have hJlt := lt_of_block hj
  have HX0 := Lib.hid ((Ex.refl [] w).alloc (.cells g.cells 90))
  have he1 : ((e : Int) == 0) = false := by simpa using he
  have HE : Hid (decide (e ≠ 0) = true) := by show _ = _; simpa using he
  clear hj he
  go_enter Tryz.func50, Tryz.ntmps50
  unfold Hd.cells at *
  go_wp2_with fail
  refine (note_any _ J D L A Da h false e (HJ.out.pure HX0.out (by simp))).mono ?_
  rintro x w3 ⟨rfl, hj3, hx3⟩
  rw [HE.out] at hj3
  have H3 := Lib.hid (And.intro hj3 hx3)
  clear hj3 hx3
  go_wp2_with fail
  go_ret
  exact ⟨rfl, H3.out.1, HX0.out.of_nil.trans H3.out.2 (Sw.refl _ _)⟩
end Go.Proofs.YtckmpdplmpgniaaGreat
