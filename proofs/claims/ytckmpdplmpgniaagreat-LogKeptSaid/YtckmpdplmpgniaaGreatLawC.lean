/- The chapter's example: its devices, by reckoning; how it goes on. No condition but ranges. -/
import Derived.Test.YtckmpdplmpgniaaGreatLawB
namespace Go.Proofs.YtckmpdplmpgniaaGreat
open Go Go.RowKit

set_option maxHeartbeats 1000000 in
theorem Fuse_up (w : World) (D : Nat) (F : List Nat) (d : Dv) (n : Int) (hn : n ≤ 9223372036854775807) (hd : d.down = false) (h : DevAt w D F d) :
    Calls Tryz.prog 14 #[.pointer (some ⟨D, 0, none⟩), .int .i64 n] w fun x w' => x = .returned (.int .i64 0) ∧ DevTo w D F (d.setFuse n) w' := by
  obtain ⟨dd, kb, kc, pa, pc, c0, c1, c2, c3, c4, hf⟩ := h.cells
  have HD := Lib.hid h
  obtain ⟨hok, dd', kv, pv, hF, hb, hk, hp⟩ := h
  have f1 := hf 1
  have HF := Lib.hid hF
  have HB := Lib.hid hb
  have HK := Lib.hid hk
  have HP := Lib.hid hp
  have HOK : Hid (d.setFuse n).ok := by
    obtain ⟨h1, h2, h3, h4, h5⟩ := hok
    show (d.setFuse n).ok
    unfold Dv.setFuse
    split
    · exact ⟨h1, h2, h3, h4, h5⟩
    · exact ⟨h1, h2, h3, h4, by simp; omega⟩
  clear hf hF hb hk hp hok c3 c4 c2 c0
  have HS : Hid (d.setFuse n = { d with fuse := n.toNat } ∧ d.able = 0) := ⟨by unfold Dv.setFuse; rw [hd]; rfl, by unfold Dv.able; rw [hd]; rfl⟩
  have HDN := Lib.hid hd
  clear hd
  by_cases hpos : 0 ≤ n
  all_goals
    go_enter Tryz.func14, Tryz.ntmps14
    go_wp2_with fail
    refine (able_any w D F d HD.out).mono ?_
    rintro x w' ⟨rfl, rfl⟩
    rw [HS.out.2]
    go_wp2_with fail
    go_ret
    rw [HS.out.1] at HOK ⊢
  · exact ⟨rfl, dev_store (dd := dd') HD.out HF.out HK.out HP.out ((Ex.refl _ _).setCell (.inl (by simp)) _) (block_setCell HB.out) (by rw [HDN.out]; simp) rfl rfl HOK.out⟩
  · exact ⟨rfl, dev_store (dd := dd') HD.out HF.out HK.out HP.out ((Ex.refl _ _).setCell (.inl (by simp)) _) (block_setCell HB.out) (by rw [HDN.out]; simp) rfl rfl HOK.out⟩

/-! ### The example's devices -/
def xh0 : Hd := ⟨0, 0, 0, 1⟩
def xh1 : Hd := xh0.app [97]
def xh2 : Hd := xh1.app [98]
def xh3 : Hd := xh2.app [99]
def xd1 : Dv := (dev6.did 1 xh0.used (txt [97]) xh1).2
def xd2 : Dv := (xd1.did 1 xh1.used (txt [98]) xh2).2
def xd3 : Dv := xd2.setFuse 4
def xd4 : Dv := (xd3.did 1 xh2.used (txt [99]) xh3).2
def xd5 (n : Int) : Dv := (xd4.wake n).2

theorem x1 : (dev6.did 1 xh0.used (txt [97]) xh1).1 = 0 ∧ xd1.down = false ∧ xd1.pend = [] ∧ xd1.kept.length = 6 ∧ xh1.used = 2 ∧ xh1.round = 2 := ⟨by kernel_rfl, by kernel_rfl, by kernel_rfl, by kernel_rfl, by kernel_rfl, by kernel_rfl⟩
theorem x2 : (xd1.did 1 xh1.used (txt [98]) xh2).1 = 0 ∧ xd2.down = false ∧ xd2.pend = [] ∧ xd2.kept.length = 6 ∧ xh2.used = 4 ∧ xh2.round = 3 := ⟨by kernel_rfl, by kernel_rfl, by kernel_rfl, by kernel_rfl, by kernel_rfl, by kernel_rfl⟩
theorem x3 : xd3.down = false ∧ xd3.pend = [] ∧ xd3.kept.length = 6 := ⟨by kernel_rfl, by kernel_rfl, by kernel_rfl⟩
theorem x4 : (xd3.did 1 xh2.used (txt [99]) xh3).1 = 10 ∧ xd4.pend.length = 1 := ⟨by kernel_rfl, by kernel_rfl⟩
theorem x5 : (xd4.wake 0).1 = 0 ∧ (xd5 0).down = false ∧ (xd5 0).pend = [] ∧ (xd5 0).kept.length = 6 := ⟨by kernel_rfl, by kernel_rfl, by kernel_rfl, by kernel_rfl⟩
theorem x6 : (xd4.wake 1).1 = 0 ∧ (xd5 1).down = false ∧ (xd5 1).pend = [] ∧ (xd5 1).kept.length = 6 := ⟨by kernel_rfl, by kernel_rfl, by kernel_rfl, by kernel_rfl⟩
theorem xok1 : xh1.ok := ⟨by decide, by decide, by decide, by decide⟩
theorem xok2 : xh2.ok := ⟨by decide, by decide, by decide, by decide⟩
theorem xok3 : xh3.ok := ⟨by decide, by decide, by decide, by decide⟩
theorem xs5 : Shows (xd5 0) 2 1 1 xh2 [[97], [98]] := ⟨xok2, by decide, by decide, by decide, by kernel_rfl, by kernel_rfl⟩
theorem xs6 : Shows (xd5 1) 2 1 1 xh3 [[97], [98], [99]] := ⟨xok3, by decide, by decide, by decide, by kernel_rfl, by kernel_rfl⟩

/-! ### All of it that lives in memory -/
def Live (w W : World) (P D E J : Nat) (rv : Value) (F : List Nat) (d : Dv) (h : Hd) (lost : Bool) : Prop :=
  Ex [] w W ∧ Bt W P D E (.pointer (some ⟨J, 0, none⟩)) rv ∧ JnAt W J D h 2 1 1 lost ∧ DevAt W D F d ∧ J ∉ F ∧ P ∉ F ∧ P ≠ J ∧ w.heap.size ≤ P ∧ w.heap.size ≤ J ∧ ∀ k ∈ F, w.heap.size ≤ k

theorem Live.pure {w W W' : World} {P D E J : Nat} {rv : Value} {F : List Nat} {d : Dv} {h : Hd} {lost : Bool} (hl : Live w W P D E J rv F d h lost) (hx : Ex [] W W') : Live w W' P D E J rv F d h lost := by
  obtain ⟨h1, h2, h3, h4, h5⟩ := hl
  exact ⟨h1.pure hx, hx.obj h2 (by simp), h3.pure hx (by simp), h4.pure hx, h5⟩

theorem Live.counted {w W W' : World} {P D E J : Nat} {rv : Value} {F : List Nat} {d : Dv} {h g : Hd} {p : Nat × Dv} {x : Ending} (hl : Live w W P D E J rv F d h false) (hc : Counted W J D 2 1 1 F h g p x W') :
    ∃ F', Live w W' P D E J rv F' p.2 (if p.1 = 0 then g else h) (decide (p.1 ≠ 0)) := by
  obtain ⟨h1, h2, h3, h4, h5, h6, h7, h8, h9, h10⟩ := hl
  obtain ⟨_, ⟨F', c1, c2, c3⟩, c4, c5⟩ := hc
  refine ⟨F', h1.off c5 ?_, c5.obj h2 (by simp [h6, h7]), c4, c1, c3, ?_, h7, h8, h9, ?_⟩
  · intro k hk
    rcases List.mem_cons.1 hk with rfl | hk
    · exact h9
    · exact h10 k hk
  · intro hm
    rcases c2 P hm with h | h
    · exact h6 h
    · have := lt_of_block h2; omega
  · intro k hk
    rcases c2 k hk with h | h
    · exact h10 k h
    · exact Nat.le_trans h1.size h

theorem Live.dev {w W W' : World} {P D E J : Nat} {rv : Value} {F : List Nat} {d d' : Dv} {h : Hd} {lost : Bool} (hl : Live w W P D E J rv F d h lost) (hd : DevTo W D F d' W') :
    ∃ F', Live w W' P D E J rv F' d' h lost := by
  obtain ⟨h1, h2, h3, h4, h5, h6, h7, h8, h9, h10⟩ := hl
  obtain ⟨F', c1, c2, c3⟩ := hd
  refine ⟨F', h1.off c3 h10, c3.obj h2 h6, h3.pure c3 h5, c1, ?_, ?_, h7, h8, h9, ?_⟩
  · intro hm
    rcases c2 J hm with h | h
    · exact h5 h
    · have := lt_of_block h3; omega
  · intro hm
    rcases c2 P hm with h | h
    · exact h6 h
    · have := lt_of_block h2; omega
  · intro k hk
    rcases c2 k hk with h | h
    · exact h10 k h
    · exact Nat.le_trans h1.size h

theorem Live.cells {w W : World} {P D E J : Nat} {rv : Value} {F : List Nat} {d : Dv} {h : Hd} {lost : Bool} (hl : Live w W P D E J rv F d h lost) : W.cell? ⟨P, 3, none⟩ = some (.pointer (some ⟨D, 0, none⟩)) ∧ W.cell? ⟨P, 4, none⟩ = some (.pointer (some ⟨J, 0, none⟩)) := ⟨hl.2.1.cells.2.2.2.1, hl.2.1.cells.2.2.2.2.1⟩

end Go.Proofs.YtckmpdplmpgniaaGreat
