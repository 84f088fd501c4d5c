/- Contracts of package log: what a journal tells. No condition but ranges. -/
import Derived.Test.YtckmpdplmpgniaaGreatLogF
namespace Go.Proofs.YtckmpdplmpgniaaGreat
open Go Go.RowKit

theorem JnAt.pure {w w' : World} {J D L A Da : Nat} {h : Hd} {lost : Bool} {F : List Nat} (hj : JnAt w J D h L A Da lost) (hx : Ex F w w') (hF : J ∉ F) : JnAt w' J D h L A Da lost := hx.obj hj hF

/-- What able() answers. -/
def lostE (lost : Bool) : Nat := if lost then 10 else 0

set_option maxHeartbeats 1000000 in
theorem jable_any (w : World) (J D L A Da : Nat) (h : Hd) (lost : Bool) (hj : JnAt w J D h L A Da lost) :
    Calls Tryz.prog 48 #[.pointer (some ⟨J, 0, none⟩)] w fun x w' => x = .returned (.int .i64 (lostE lost)) ∧ w = w' := by
  have c12 : w.cell? ⟨J, 12, none⟩ = some (.pointer (some ⟨D, 0, none⟩)) := by rw [cell_of_block hj]; rfl
  have c13 : w.cell? ⟨J, 13, none⟩ = some (.bool lost) := by rw [cell_of_block hj]; rfl
  clear hj
  cases lost
  all_goals
    go_enter Tryz.func48, Tryz.ntmps48
    go_wp2
    go_ret
    exact ⟨rfl, rfl⟩

set_option maxHeartbeats 1000000 in
theorem note_any (w : World) (J D L A Da : Nat) (h : Hd) (lost : Bool) (e : Nat) (hj : JnAt w J D h L A Da lost) :
    Calls Tryz.prog 69 #[.pointer (some ⟨J, 0, none⟩), .int .i64 e] w fun x w' => x = .returned (.int .i64 e) ∧ JnAt w' J D h L A Da (lost || decide (e ≠ 0)) ∧ Ex [J] w w' := by
  have c13 : w.cell? ⟨J, 13, none⟩ = some (.bool lost) := by rw [cell_of_block hj]; rfl
  have f13 : w.frozen? ⟨J, 13, none⟩ = false := free_of_block hj
  have HJ := Lib.hid hj
  clear hj
  by_cases he : e = 0
  · subst he
    cases lost
    all_goals
      go_enter Tryz.func69, Tryz.ntmps69
      go_wp2
      go_ret
      exact ⟨rfl, block_setCell (j := 13) HJ.out, (Ex.refl [J] w).setCell (.inl (by simp)) _⟩
  · have hb : ((e : Int) != 0) = true := by simpa using he
    have hd : decide (e ≠ 0) = true := by simpa using he
    have HD := Lib.hid hd
    clear hd he
    cases lost
    all_goals
      rw [HD.out]
      go_enter Tryz.func69, Tryz.ntmps69
      go_wp2
      go_ret
      exact ⟨rfl, block_setCell (j := 13) HJ.out, (Ex.refl [J] w).setCell (.inl (by simp)) _⟩

set_option maxHeartbeats 1000000 in
theorem Round_any (w : World) (J D L A Da : Nat) (h : Hd) (hj : JnAt w J D h L A Da false) :
    Calls Tryz.prog 19 #[.pointer (some ⟨J, 0, none⟩)] w fun x w' => x = .returned (.int .i64 h.round) ∧ w = w' := by
  have c3 : w.cell? ⟨J, 3, none⟩ = some (.int .i64 h.round) := by rw [cell_of_block hj]; rfl
  have HJ := Lib.hid hj
  clear hj
  go_enter Tryz.func19, Tryz.ntmps19
  go_wp2_with fail
  refine (jable_any w J D L A Da h false HJ.out).mono ?_
  rintro x w' ⟨rfl, rfl⟩
  unfold lostE
  go_wp2_with fail
  go_ret
  exact ⟨rfl, rfl⟩

set_option maxHeartbeats 2000000 in
theorem Room_any (w : World) (J D L A Da : Nat) (h : Hd) (hL : L ≤ 8192) (hu : h.used ≤ L * 64) (hj : JnAt w J D h L A Da false) :
    Calls Tryz.prog 18 #[.pointer (some ⟨J, 0, none⟩)] w fun x w' => x = .returned (.int .i64 ((L * 64 - h.used : Nat) : Int)) ∧ Ex [] w w' := by
  have c2 : w.cell? ⟨J, 2, none⟩ = some (.int .i64 h.used) := by rw [cell_of_block hj]; rfl
  have c4 : w.cell? ⟨J, 4, none⟩ = some (.int .i64 1) := by rw [cell_of_block hj]; rfl
  have c5 : w.cell? ⟨J, 5, none⟩ = some (.int .i64 L) := by rw [cell_of_block hj]; rfl
  have HJ := Lib.hid hj
  have hlt := lt_of_block hj
  have e : ((L * 64 - h.used : Nat) : Int) = (L : Int) * 64 - h.used := by omega
  have HE := Lib.hid e
  have ew : IntKind.i64.wrap ((L : Int) * 64 - h.used) = (L : Int) * 64 - h.used := IntWalk.i64_in _ (by omega)
  clear hj e
  go_enter Tryz.func18, Tryz.ntmps18
  go_wp2_with fail
  refine (jable_any w J D L A Da h false HJ.out).mono ?_
  rintro x w' ⟨rfl, rfl⟩
  unfold lostE
  go_wp2_with fail
  go_region_held3 (fun w' => w'.cell? ⟨J, 2, none⟩ = some (.int .i64 h.used) ∧ w'.cell? ⟨J, 4, none⟩ = some (.int .i64 1) ∧ w'.cell? ⟨J, 5, none⟩ = some (.int .i64 L)) (go_keep)
    (first | (go_at_call 41; with_reducible refine (size_any _ _ L (by omega)).mono ?_; rintro x w' ⟨rfl, rfl⟩))
  go_wp2_with fail
  go_ret
  exact ⟨by rw [HE.out]; rfl, ((Ex.refl [] _).alloc _).drew⟩
end Go.Proofs.YtckmpdplmpgniaaGreat
