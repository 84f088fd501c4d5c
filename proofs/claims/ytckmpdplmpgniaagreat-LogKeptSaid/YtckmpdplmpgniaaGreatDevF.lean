/- Contracts of package dev: Write, all ways. No condition but sizes. -/
import Derived.Test.YtckmpdplmpgniaaGreatDevE
namespace Go.Proofs.YtckmpdplmpgniaaGreat
open Go Go.RowKit

set_option maxHeartbeats 2000000 in
theorem Write_down (w : World) (D : Nat) (F : List Nat) (d : Dv) (at_ : Nat) (v : Value) (h : DevAt w D F d) (hd : d.down = true) :
    Calls Tryz.prog 72 #[.pointer (some ⟨D, 0, none⟩), .int .i64 at_, v] w fun x w' => x = .returned (.int .i64 10) ∧ w' = w := by
  have HD := Lib.hid h
  have HA : Hid (d.able = 10) := by show _ = _; unfold Dv.able; rw [hd]; rfl
  clear hd
  go_enter Tryz.func72, Tryz.ntmps72
  go_wp2_with fail
  refine (able_any w D F d HD.out).mono ?_
  rintro x w' ⟨rfl, rfl⟩
  rw [HA.out]
  go_wp2_with fail
  go_ret
  exact ⟨rfl, rfl⟩

set_option maxHeartbeats 2000000 in
theorem Write_fuse (w : World) (D : Nat) (F : List Nat) (d : Dv) (at_ : Nat) (v : Value) (b : List UInt8) (h : DevAt w D F d)
    (hd : d.down = false) (hf1 : d.fuse = 1) (hat : at_ < d.kept.length) (hv : RdB w v b) (hl : b.length ≤ 64) :
    Calls Tryz.prog 72 #[.pointer (some ⟨D, 0, none⟩), .int .i64 at_, v] w fun x w' => x = .returned (.int .i64 10) ∧ DevTo w D F { d with fuse := 0, down := true } w' := by
  have HD := Lib.hid h
  have HA : Hid (d.able = 0 ∧ d.next = (10, { d with fuse := 0, down := true }) ∧ d.has at_ = true) := ⟨by unfold Dv.able; rw [hd]; rfl, by unfold Dv.next; rw [if_pos hf1], by unfold Dv.has; simp; omega⟩
  have hk8 := h.1.2.1
  obtain ⟨a, cap, rfl, hcap⟩ := hv.2
  clear hd hf1 hv hcap
  go_enter Tryz.func72, Tryz.ntmps72
  go_wp2_with fail
  refine (able_any w D F d HD.out).mono ?_
  rintro x w' ⟨rfl, rfl⟩
  rw [HA.out.1]
  go_wp2_with fail
  refine (has_any w D F d at_ (by omega) (by omega) HD.out).mono ?_
  rintro x w' ⟨rfl, rfl⟩
  rw [HA.out.2.2]
  go_wp2_with fail
  refine (next_any w D F d HD.out).mono ?_
  rintro x w1 ⟨rfl, hd1⟩
  rw [HA.out.2.1] at hd1 ⊢
  have H1 := Lib.hid hd1
  clear hd1
  go_wp2_with fail
  go_ret
  exact ⟨rfl, H1.out⟩

/-- Write, of a sector that is there, and no more than a sector's bytes. -/
theorem Write_any (w : World) (D : Nat) (F : List Nat) (d : Dv) (at_ : Nat) (v : Value) (b : List UInt8) (hp : d.pend.length ≤ 1000000) (h : DevAt w D F d)
    (hat : at_ < d.kept.length) (hv : RdB w v b) (hl : b.length ≤ 64) (hoff : Off w v F) :
    Calls Tryz.prog 72 #[.pointer (some ⟨D, 0, none⟩), .int .i64 at_, v] w fun x w' => x = .returned (.int .i64 (d.write at_ b).1) ∧ DevTo w D F (d.write at_ b).2 w' := by
  have hhas : d.has at_ = true := by unfold Dv.has; simp; omega
  cases hd : d.down with
  | true =>
    have e : d.write at_ b = (10, d) := by unfold Dv.write; rw [hd]; rfl
    rw [e]
    refine (Write_down w D F d at_ v h hd).mono ?_
    rintro x w' ⟨rfl, rfl⟩
    exact ⟨rfl, DevTo.refl h⟩
  | false =>
    by_cases hf : d.fuse = 1
    · have e : d.write at_ b = (10, { d with fuse := 0, down := true }) := by unfold Dv.write; rw [hd, if_neg (by decide), if_pos ⟨hhas, hl⟩, if_pos hf]
      rw [e]
      exact Write_fuse w D F d at_ v b h hd hf hat hv hl
    · have e : d.write at_ b = (0, { d with fuse := d.fuse - 1, pend := d.pend ++ [(at_, pad64 b)] }) := by unfold Dv.write; rw [hd, if_neg (by decide), if_pos ⟨hhas, hl⟩, if_neg hf]; simp
      rw [e]
      exact Write_good w D F d at_ v b hp h hd hf hat hv hl hoff
end Go.Proofs.YtckmpdplmpgniaaGreat
