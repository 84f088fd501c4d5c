/- Contracts of package log: the records. No condition but ranges. -/
import Derived.Test.YtckmpdplmpgniaaGreatLogH
namespace Go.Proofs.YtckmpdplmpgniaaGreat
open Go Go.RowKit

set_option maxRecDepth 100000 in
set_option maxHeartbeats 4000000 in
theorem Records_good (w : World) (J D L A Da : Nat) (F : List Nat) (d : Dv) (h : Hd) (recs : List (List UInt8)) (hs : shapeOk L A Da) (hj : JnAt w J D h L A Da false) (hd : DevAt w D F d) (hu : d.down = false) (hp : d.pend.length ≤ 1000000) (hn : sectorsS L A Da ≤ d.kept.length) (hz : h.used ≤ L * 64) (hlog : d.bytes 1 h.used = txts recs) :
    Calls Tryz.prog 33 #[.pointer (some ⟨J, 0, none⟩)] w fun x w' => ∃ u ts, x = .returned (.tuple #[u, .int .i64 0]) ∧ ts.map Prod.snd = recs ∧ Lst w' w.heap.size u ts ∧ JnAt w' J D h L A Da false ∧ Ex [J] w w' := by
  have HJ := Lib.hid hj
  have HD := Lib.hid hd
  have HU := Lib.hid hu
  have HLOG := Lib.hid hlog
  have hk8 := hd.1.2.1
  obtain ⟨hL, hA, hDa, hT⟩ := hs
  have hn' : 1 + L + A + A + Da ≤ d.kept.length := hn
  have hJlt := lt_of_block hj
  have c2 : w.cell? ⟨J, 2, none⟩ = some (.int .i64 h.used) := by rw [cell_of_block hj]; rfl
  have c4 : w.cell? ⟨J, 4, none⟩ = some (.int .i64 1) := by rw [cell_of_block hj]; rfl
  have c5 : w.cell? ⟨J, 5, none⟩ = some (.int .i64 L) := by rw [cell_of_block hj]; rfl
  have c12 : w.cell? ⟨J, 12, none⟩ = some (.pointer (some ⟨D, 0, none⟩)) := by rw [cell_of_block hj]; rfl
  clear hj hd hu hn hlog
  go_enter Tryz.func33, Tryz.ntmps33
  go_wp2_with fail
  refine (jable_any w J D L A Da h false HJ.out).mono ?_
  rintro x w' ⟨rfl, rfl⟩
  unfold lostE
  go_wp2_with fail
  go_region_held3 (fun w' => w'.cell? ⟨J, 2, none⟩ = some (.int .i64 h.used) ∧ w'.cell? ⟨J, 4, none⟩ = some (.int .i64 1) ∧ w'.cell? ⟨J, 5, none⟩ = some (.int .i64 L) ∧ w'.cell? ⟨J, 12, none⟩ = some (.pointer (some ⟨D, 0, none⟩))) (first | (simp [*]; done) | (refine ⟨?_, ?_, ?_, ?_⟩ <;> assumption))
    (first | (go_at_call 42; refine (read_up _ D F d 1 L h.used (HD.out.pure ((Ex.refl [] w).drew)) HU.out hp (by omega)).mono ?_; rintro x w' ⟨a7, cap7, rfl, hr7, hx7, hf7, hl7, hfl7⟩; have b2 := hx7.cell (by simp) (show w.drew.cell? _ = _ from c2); have b4 := hx7.cell (by simp) (show w.drew.cell? _ = _ from c4); have b5 := hx7.cell (by simp) (show w.drew.cell? _ = _ from c5); have b12 := hx7.cell (by simp) (show w.drew.cell? _ = _ from c12)))
  go_wp2_with fail
  have hxx : Ex [] w w' := ((Ex.refl [] w).drew).pure hx7
  refine (note_any w' J D L A Da h false 0 (HJ.out.pure hxx (by simp))).mono ?_
  rintro x w2 ⟨rfl, hj2, hx2⟩
  have hoff : Off w' (.slice a7 h.used cap7) [J] := by
    intro k hk _ hm
    simp at hm
    subst hm
    have : w.heap.size ≤ k := hf7 k hk
    omega
  have htl : (txts recs).length = h.used := by rw [← HLOG.out]; exact hl7
  have HH := Lib.hid (And.intro hj2 (And.intro hx2 (And.intro (hr7.ex hx2 hoff) (And.intro hl7 hxx))))
  clear hj2 hx2 hr7 hl7 hf7 hxx hoff
  go_wp2_with fail
  refine (texts_good w2 (d.bytes 1 h.used) _ HH.out.2.2.1 recs HLOG.out (by rw [HH.out.2.2.2.1]; omega) (by have := (txts_each recs).2; omega) (fun t ht => by have := (txts_each recs).1 t ht; omega)).mono ?_
  rintro x w8 ⟨u8, ts8, rfl, h81, h82, hx8⟩
  have H8 := Lib.hid (And.intro h81 (And.intro h82 hx8))
  clear h81 h82 hx8
  go_wp2_with fail
  go_ret2
  obtain ⟨hj2, hx2, hr7, hl7, hxx⟩ := HH.out
  obtain ⟨h81, h82, hx8⟩ := H8.out
  have hsz : w.heap.size ≤ w2.heap.size := Nat.le_trans hxx.size hx2.size
  refine ⟨_, ts8, rfl, h81, ⟨h82.1, fun k hk => Nat.le_trans hsz (h82.2.1 k hk), fun t ht => ⟨(h82.2.2 t ht).1, fun k hk => Nat.le_trans hsz ((h82.2.2 t ht).2 k hk)⟩⟩, hj2.pure hx8 (by simp), (hxx.of_nil.trans hx2 (Sw.refl _ _)).pure hx8⟩
end Go.Proofs.YtckmpdplmpgniaaGreat
