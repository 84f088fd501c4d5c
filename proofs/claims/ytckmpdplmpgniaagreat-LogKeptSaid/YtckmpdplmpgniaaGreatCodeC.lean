/- Contracts of package code's cursor. No condition but sizes. -/
import Derived.Test.YtckmpdplmpgniaaGreatCodeB
import Derived.Test.YtckmpdplmpgniaaGreatPlain
namespace Go.Proofs.YtckmpdplmpgniaaGreat
open Go Go.RowKit

/-- A cursor at a block: its blocks, the bytes that are left, the error. -/
def Cu (w : World) (B : Nat) (F : List Nat) (r : List UInt8) (e : Nat) : Prop :=
  ∃ v, F = B :: bk v ∧ w.heap[B]? = some (.cells #[v, .int .i64 e] 189 (0, 0)) ∧ RdB w v r ∧ (∀ k ∈ bk v, k ≠ B) ∧ r.length ≤ 1000000000 ∧ (e ≠ 0 → r = []) ∧ Flat v

/-- From one world to another one a cursor has come to these bytes and this error; nothing else has turned. -/
def CuTo (w : World) (B : Nat) (F : List Nat) (r : List UInt8) (e : Nat) (w' : World) : Prop :=
  ∃ F', Cu w' B F' r e ∧ (∀ k ∈ F', k ∈ F) ∧ Ex [B] w w'

theorem Cu.ex {w w' : World} {B : Nat} {F G : List Nat} {r : List UInt8} {e : Nat} (h : Cu w B F r e) (hx : Ex G w w') (hd : ∀ k ∈ F, k ∉ G) : Cu w' B F r e := by
  obtain ⟨v, rfl, hb, hr, hn⟩ := h
  exact ⟨v, rfl, hx.obj hb (hd _ (by simp)), hr.ex hx fun k hk _ => hd k (by simp [hk]), hn⟩

theorem Cu.pure {w w' : World} {B : Nat} {F : List Nat} {r : List UInt8} {e : Nat} (h : Cu w B F r e) (hx : Ex [] w w') : Cu w' B F r e := h.ex hx fun _ _ => by simp
theorem Cu.mem {w : World} {B : Nat} {F : List Nat} {r : List UInt8} {e : Nat} (h : Cu w B F r e) : B ∈ F := by obtain ⟨v, rfl, _⟩ := h; simp
theorem Cu.blt {w : World} {B : Nat} {F : List Nat} {r : List UInt8} {e : Nat} (h : Cu w B F r e) : B < w.heap.size := by obtain ⟨v, rfl, hb, _⟩ := h; exact lt_of_block hb

theorem CuTo.refl {w : World} {B : Nat} {F : List Nat} {r : List UInt8} {e : Nat} (h : Cu w B F r e) : CuTo w B F r e w := ⟨F, h, fun _ h => h, Ex.refl _ _⟩

theorem CuTo.trans {w w1 w2 : World} {B : Nat} {F F1 : List Nat} {r : List UInt8} {e : Nat} (hs : ∀ k ∈ F1, k ∈ F) (hx : Ex [B] w w1) (h : CuTo w1 B F1 r e w2) : CuTo w B F r e w2 := by
  obtain ⟨F2, hm, hs2, hx2⟩ := h
  exact ⟨F2, hm, fun k hk => hs k (hs2 k hk), hx.trans hx2 (Sw.refl _ _)⟩

/-- The error of a cursor that is broken: the first one stays. -/
def brk (e f : Nat) : Nat := if e = 0 then f else e

set_option maxHeartbeats 400000 in
theorem fail_any (w : World) (B : Nat) (F : List Nat) (r : List UInt8) (e f : Nat) (h : Cu w B F r e) :
    Calls Tryz.prog 107 #[.pointer (some ⟨B, 0, none⟩), .int .i64 f] w fun x w' => x = .returned (.tuple #[]) ∧ CuTo w B F [] (brk e f) w' := by
  obtain ⟨v, rfl, hb, hr, hn⟩ := h
  have HB := Lib.hid hb
  have c1 : w.cell? ⟨B, 1, none⟩ = some (.int .i64 e) := by rw [cell_of_block hb]; rfl
  have c0 : w.cell? ⟨B, 0, none⟩ = some v := by rw [cell_of_block hb]; rfl
  have f0 : w.frozen? ⟨B, 0, none⟩ = false := free_of_block hb
  have f1 : w.frozen? ⟨B, 1, none⟩ = false := free_of_block hb
  clear hr hn hb
  by_cases he : e = 0
  · subst he
    go_enter Tryz.func107, Tryz.ntmps107
    go_wp2
    go_end0
    refine ⟨rfl, [B], ⟨.slice none 0 0, rfl, ?_, rd_of_owns (World.ownsRow_nil _ 0 5 1), by simp [bk, Value.ownBlock], by simp, by simp, .inl ⟨_, _, rfl⟩⟩, by simp, ((Ex.refl _ _).setCell (.inl (by simp)) _).setCell (.inl (by simp)) _⟩
    rw [block_setCell (block_setCell HB.out)]
    rfl
  · have he' : ((e : Int) == 0) = false := by simp; omega
    have HE := Lib.hid he
    clear he
    go_enter Tryz.func107, Tryz.ntmps107
    go_wp2
    go_end0
    refine ⟨rfl, [B], ⟨.slice none 0 0, rfl, ?_, rd_of_owns (World.ownsRow_nil _ 0 5 1), by simp [bk, Value.ownBlock], by simp, by simp, .inl ⟨_, _, rfl⟩⟩, by simp, ((Ex.refl _ _).setCell (.inl (by simp)) _)⟩
    rw [block_setCell HB.out]
    simp [brk, HE.out]

set_option maxRecDepth 100000 in
set_option maxHeartbeats 400000 in
theorem length_any (w : World) (n : Nat) (hn : n < 18446744073709551616) :
    Calls Tryz.prog 106 #[.int .u64 n] w fun x w' => x = .returned (.int .i64 (num n).length) ∧ w = w' := by
  go_enter Tryz.func106, Tryz.ntmps106
  go_wp2
  go_loop [0, 3] (fun i c => ∃ m k : Nat, i = .int .u64 m ∧ m < 18446744073709551616 ∧ c = .int .i64 (k + 1 : Nat) ∧ Hid ((num n).length = k + (num m).length) ∧ k ≤ 11) (fun i _ => (intOf i).toNat)
  case atStart => exact ⟨n, 0, rfl, hn, rfl, by simp [Hid], by omega⟩
  case round =>
    obtain ⟨m, k, rfl, hm, rfl, hl, hk⟩ := hrel
    by_cases hlt : 128 ≤ m
    · go_wp2
      go_round
      case rel =>
        have := hl.out
        have hn := num_length n
        rw [num_step m hlt hm] at this
        refine ⟨m / 128, k + 1, by go_num, by omega, by go_num, ?_, ?_⟩
        · show _ = _
          rw [this]; simp; omega
        · simp at this; have := num_length (m / 128); omega
      case measure => simp [intOf]; omega
    · go_wp2
      go_ret
      have := hl.out
      rw [num_small m (by omega)] at this
      exact ⟨by rw [this]; rfl, rfl⟩

end Go.Proofs.YtckmpdplmpgniaaGreat
