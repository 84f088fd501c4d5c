/- Contracts of package log: the area, and the records. No condition but ranges. -/
import Derived.Test.YtckmpdplmpgniaaGreatLogG
namespace Go.Proofs.YtckmpdplmpgniaaGreat
open Go Go.RowKit

/-- The first sector of an area. -/
def areaAt (L A k : Nat) : Nat := if k = 0 then 1 + L else 1 + L + A

set_option maxRecDepth 100000 in
set_option maxHeartbeats 4000000 in
theorem Area_good (w : World) (J D L A Da : Nat) (F : List Nat) (d : Dv) (h : Hd) (hs : shapeOk L A Da) (hj : JnAt w J D h L A Da false) (hd : DevAt w D F d) (hu : d.down = false) (hp : d.pend.length ≤ 1000000) (hn : sectorsS L A Da ≤ d.kept.length) (ha : h.area ≤ 1) (hz : h.size ≤ A * 64) :
    Calls Tryz.prog 45 #[.pointer (some ⟨J, 0, none⟩)] w fun x w' => ∃ a cap, x = .returned (.tuple #[.slice a h.size cap, .int .i64 0]) ∧ RdB w' (.slice a h.size cap) (d.bytes (areaAt L A h.area) h.size) ∧ (d.bytes (areaAt L A h.area) h.size).length = h.size ∧ JnAt w' J D h L A Da false ∧ Ex [J] w w' := by
  have HJ := Lib.hid hj
  have HD := Lib.hid hd
  have HU := Lib.hid hu
  have hk8 := hd.1.2.1
  obtain ⟨hL, hA, hDa, hT⟩ := hs
  have hn' : 1 + L + A + A + Da ≤ d.kept.length := hn
  have hJlt := lt_of_block hj
  have c0 : w.cell? ⟨J, 0, none⟩ = some (.int .i64 h.area) := by rw [cell_of_block hj]; rfl
  have c1 : w.cell? ⟨J, 1, none⟩ = some (.int .i64 h.size) := by rw [cell_of_block hj]; rfl
  have c6 : w.cell? ⟨J, 6, none⟩ = some (.int .i64 (1 + (L : Int))) := by rw [cell_of_block hj]; rfl
  have c7 : w.cell? ⟨J, 7, none⟩ = some (.int .i64 A) := by rw [cell_of_block hj]; rfl
  have c8 : w.cell? ⟨J, 8, none⟩ = some (.int .i64 (1 + (L : Int) + A)) := by rw [cell_of_block hj]; rfl
  have c9 : w.cell? ⟨J, 9, none⟩ = some (.int .i64 A) := by rw [cell_of_block hj]; rfl
  have c12 : w.cell? ⟨J, 12, none⟩ = some (.pointer (some ⟨D, 0, none⟩)) := by rw [cell_of_block hj]; rfl
  clear hj hd hu hn
  rcases (show h.area = 0 ∨ h.area = 1 from by omega) with h0 | h0
  · have HA : Hid (areaAt L A h.area = 1 + L) := by show _ = _; unfold areaAt; rw [h0]; rfl
    rw [h0] at c0
    clear h0 ha c8 c9
    go_enter Tryz.func45, Tryz.ntmps45
    go_wp2_with fail
    refine (jable_any w J D L A Da h false HJ.out).mono ?_
    rintro x w' ⟨rfl, rfl⟩
    unfold lostE
    go_wp2_with fail
    go_region_held3 (fun w' => w'.cell? ⟨J, 0, none⟩ = some (.int .i64 ((0 : Nat) : Int)) ∧ w'.cell? ⟨J, 1, none⟩ = some (.int .i64 h.size) ∧ w'.cell? ⟨J, 6, none⟩ = some (.int .i64 (1 + (L : Int))) ∧ w'.cell? ⟨J, 7, none⟩ = some (.int .i64 A) ∧ w'.cell? ⟨J, 12, none⟩ = some (.pointer (some ⟨D, 0, none⟩))) (first | (simp [*]; done) | (refine ⟨?_, ?_, ?_, ?_, ?_⟩ <;> assumption))
      (first | (go_at_call 42; refine (read_up _ D F d (1 + L) A h.size (HD.out.pure ((Ex.refl [] w).drew)) HU.out hp (by omega)).mono ?_; rintro x w' ⟨a7, cap7, rfl, hr7, hx7, hf7, hl7, hfl7⟩; have b0 := hx7.cell (by simp) (show w.drew.cell? _ = _ from c0); have b1 := hx7.cell (by simp) (show w.drew.cell? _ = _ from c1); have b6 := hx7.cell (by simp) (show w.drew.cell? _ = _ from c6); have b7 := hx7.cell (by simp) (show w.drew.cell? _ = _ from c7); have b12 := hx7.cell (by simp) (show w.drew.cell? _ = _ from c12)))
    go_wp2_with fail
    have hxx : Ex [] w w' := ((Ex.refl [] w).drew).pure hx7
    refine (note_any w' J D L A Da h false 0 (HJ.out.pure hxx (by simp))).mono ?_
    rintro x w2 ⟨rfl, hj2, hx2⟩
    have HH := Lib.hid (And.intro hj2 (And.intro hx2 (And.intro hr7 (And.intro hl7 (And.intro hf7 hxx)))))
    clear hj2 hx2 hr7 hl7 hf7 hxx
    go_wp2_with fail
    go_ret2
    obtain ⟨hj2, hx2, hr7, hl7, hf7, hxx⟩ := HH.out
    rw [HA.out]
    refine ⟨a7, cap7, rfl, hr7.ex hx2 ?_, hl7, hj2, hxx.of_nil.trans hx2 (Sw.refl _ _)⟩
    intro k hk _ hm
    simp at hm
    subst hm
    have : w.heap.size ≤ k := hf7 k hk
    omega
  · have HA : Hid (areaAt L A h.area = 1 + L + A) := by show _ = _; unfold areaAt; rw [h0]; rfl
    rw [h0] at c0
    clear h0 ha c6 c7
    go_enter Tryz.func45, Tryz.ntmps45
    go_wp2_with fail
    refine (jable_any w J D L A Da h false HJ.out).mono ?_
    rintro x w' ⟨rfl, rfl⟩
    unfold lostE
    go_wp2_with fail
    go_region_held3 (fun w' => w'.cell? ⟨J, 0, none⟩ = some (.int .i64 ((1 : Nat) : Int)) ∧ w'.cell? ⟨J, 1, none⟩ = some (.int .i64 h.size) ∧ w'.cell? ⟨J, 8, none⟩ = some (.int .i64 (1 + (L : Int) + A)) ∧ w'.cell? ⟨J, 9, none⟩ = some (.int .i64 A) ∧ w'.cell? ⟨J, 12, none⟩ = some (.pointer (some ⟨D, 0, none⟩))) (first | (simp [*]; done) | (refine ⟨?_, ?_, ?_, ?_, ?_⟩ <;> assumption))
      (first | (go_at_call 42; refine (read_up _ D F d (1 + L + A) A h.size (HD.out.pure ((Ex.refl [] w).drew)) HU.out hp (by omega)).mono ?_; rintro x w' ⟨a7, cap7, rfl, hr7, hx7, hf7, hl7, hfl7⟩; have b0 := hx7.cell (by simp) (show w.drew.cell? _ = _ from c0); have b1 := hx7.cell (by simp) (show w.drew.cell? _ = _ from c1); have b8 := hx7.cell (by simp) (show w.drew.cell? _ = _ from c8); have b9 := hx7.cell (by simp) (show w.drew.cell? _ = _ from c9); have b12 := hx7.cell (by simp) (show w.drew.cell? _ = _ from c12)))
    go_wp2_with fail
    have hxx : Ex [] w w' := ((Ex.refl [] w).drew).pure hx7
    refine (note_any w' J D L A Da h false 0 (HJ.out.pure hxx (by simp))).mono ?_
    rintro x w2 ⟨rfl, hj2, hx2⟩
    have HH := Lib.hid (And.intro hj2 (And.intro hx2 (And.intro hr7 (And.intro hl7 (And.intro hf7 hxx)))))
    clear hj2 hx2 hr7 hl7 hf7 hxx
    go_wp2_with fail
    go_ret2
    obtain ⟨hj2, hx2, hr7, hl7, hf7, hxx⟩ := HH.out
    rw [HA.out]
    refine ⟨a7, cap7, rfl, hr7.ex hx2 ?_, hl7, hj2, hxx.of_nil.trans hx2 (Sw.refl _ _)⟩
    intro k hk _ hm
    simp at hm
    subst hm
    have : w.heap.size ≤ k := hf7 k hk
    omega
end Go.Proofs.YtckmpdplmpgniaaGreat
