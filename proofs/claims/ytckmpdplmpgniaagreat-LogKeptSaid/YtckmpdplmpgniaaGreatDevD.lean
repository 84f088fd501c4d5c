/- Contracts of package dev: Wake. No condition but sizes. -/
import Derived.Test.YtckmpdplmpgniaaGreatDevC
namespace Go.Proofs.YtckmpdplmpgniaaGreat
open Go Go.RowKit

set_option maxRecDepth 100000 in
theorem run_someStay (args : Array Value) (W : World) : (callFunc 47 args).run Tryz.prog W = .ok (.enter 47 args) W := rfl

theorem and_pow (n m : Nat) : n &&& 2 ^ m = (n.testBit m).toNat * 2 ^ m := by
  apply Nat.eq_of_testBit_eq
  intro i
  rw [Nat.testBit_and, Nat.testBit_two_pow]
  cases h : n.testBit m
  · by_cases hm : m = i
    · subst hm; simp [h]
    · simp [hm]
  · by_cases hm : m = i
    · subst hm; simp [h]
    · simp [hm]

theorem and_bit (n m : Nat) (hn : n < 18446744073709551616) (hm : m < 64) : (bits BinOp.and IntKind.u64 (n : Int) (IntKind.u64.wrap (2 ^ m)) != 0) = n.testBit m := by
  have h2 : 2 ^ m < 18446744073709551616 := Nat.pow_lt_pow_right (a := 2) (by decide) hm
  have hc : ((2 : Int) ^ m) = ((2 ^ m : Nat) : Int) := by rw [Int.natCast_pow]; rfl
  rw [hc, wrap_u64 _ h2]
  have hb : bits BinOp.and IntKind.u64 (n : Int) ((2 ^ m : Nat) : Int) = ((n &&& 2 ^ m : Nat) : Int) := by
    have hab : n &&& 2 ^ m < 2 ^ 64 := Nat.and_lt_two_pow _ (by omega)
    show IntKind.u64.wrap (((BitVec.ofInt 64 (n : Int) &&& BitVec.ofInt 64 ((2 ^ m : Nat) : Int)).toNat : Nat) : Int) = _
    rw [BitVec.ofInt_natCast, BitVec.ofInt_natCast, BitVec.toNat_and, BitVec.toNat_ofNat, BitVec.toNat_ofNat, Nat.mod_eq_of_lt (by omega), Nat.mod_eq_of_lt (by omega)]
    exact wrap_u64 _ (by omega)
  rw [hb, and_pow]
  cases n.testBit m
  · simp
  · have : 0 < 2 ^ m := Nat.pow_pos (by decide)
    simp
    omega

/-- Does the k-th stay? -/
def stayBit (n : Nat) (k : Nat) : Bool := n.testBit (k % 62)

set_option maxHeartbeats 1000000 in
theorem someStay (k n b : Nat) (hk : k ≤ 1000000) (hn : n < 18446744073709551616) (w : World) (hc : w.cell? ⟨b, 0, none⟩ = some (.int .u64 n)) : Calls Tryz.prog 47 #[.int .i64 k, .pointer (some ⟨b, 0, none⟩)] w fun x w' => x = .returned (.bool (stayBit n k)) ∧ ∃ n, w' = w.drewN n := by
  have hq : ((k : Int).tmod 62) = ((k % 62 : Nat) : Int) := by rw [Int.tmod_eq_emod_of_nonneg (by omega)]; omega
  have hlt : k % 62 < 62 := Nat.mod_lt _ (by decide)
  generalize hm : k % 62 = m at *
  have HM := Lib.hid hm
  clear hm
  go_enter Tryz.func47, Tryz.ntmps47
  go_wp2
  go_quiet (fail)
  go_wp2
  go_ret
  refine ⟨?_, nq, rfl⟩
  show Ending.returned (Value.bool (bits BinOp.and IntKind.u64 (n : Int) (IntKind.u64.wrap (2 ^ m)) != 0)) = _
  rw [and_bit n m hn (by omega)]
  unfold stayBit
  rw [HM.out]

/-- A waking. -/
def Dv.wake (d : Dv) (keep : Int) : Nat × Dv :=
  if d.down then (0, { d.settle (stayBit (IntKind.u64.wrap keep).toNat) with fuse := 0, down := false }) else (15, d)

theorem wrap_u64_nonneg (n : Int) : 0 ≤ IntKind.u64.wrap n ∧ IntKind.u64.wrap n < 18446744073709551616 := by
  simp only [IntKind.wrap, IntKind.bits, IntKind.signed]
  simp
  omega

set_option maxRecDepth 100000 in
set_option maxHeartbeats 2000000 in
theorem Wake_any (w : World) (D : Nat) (F : List Nat) (d : Dv) (keep : Int) (hp : d.pend.length ≤ 1000000) (h : DevAt w D F d) :
    Calls Tryz.prog 17 #[.pointer (some ⟨D, 0, none⟩), .int .i64 keep] w fun x w' => x = .returned (.int .i64 (d.wake keep).1) ∧ DevTo w D F (d.wake keep).2 w' := by
  have HD := Lib.hid h
  cases hd : d.down with
  | false =>
    have HS : Hid (d.wake keep = (15, d) ∧ d.able = 0) := ⟨by unfold Dv.wake; rw [hd]; rfl, by unfold Dv.able; rw [hd]; rfl⟩
    clear hd
    go_enter Tryz.func17, Tryz.ntmps17
    go_wp2_with fail
    refine (able_any w D F d HD.out).mono ?_
    rintro x w' ⟨rfl, rfl⟩
    rw [HS.out.2]
    go_wp2_with fail
    go_ret
    rw [HS.out.1]
    exact ⟨rfl, DevTo.refl HD.out⟩
  | true =>
    have HS : Hid (d.wake keep = (0, { d.settle (stayBit (IntKind.u64.wrap keep).toNat) with fuse := 0, down := false }) ∧ d.able = 10) := ⟨by unfold Dv.wake; rw [hd]; rfl, by unfold Dv.able; rw [hd]; rfl⟩
    clear hd
    have hu0 := wrap_u64_nonneg keep
    have hcell : (w.alloc (.cells #[.int .u64 (IntKind.u64.wrap keep)] 102)).cell? ⟨w.heap.size, 0, none⟩ = some (.int .u64 ((IntKind.u64.wrap keep).toNat : Int)) := by
      rw [Int.toNat_of_nonneg hu0.1]
      rw [cell_of_block (heap_alloc_new w _)]
      rfl
    have hx0 : Ex [] w (w.alloc (.cells #[.int .u64 (IntKind.u64.wrap keep)] 102)) := (Ex.refl [] w).alloc _
    have HX := Lib.hid hx0
    have HC := Lib.hid hcell
    have HU := Lib.hid hu0
    clear hx0 hcell hu0
    go_enter Tryz.func17, Tryz.ntmps17
    go_wp2_with fail
    refine (able_any w D F d HD.out).mono ?_
    rintro x w' ⟨rfl, rfl⟩
    rw [HS.out.2]
    go_wp2_with fail
    have hlt : w.heap.size < (w.alloc (.cells #[.int .u64 (IntKind.u64.wrap keep)] 102)).heap.size := by simp
    have HLT := Lib.hid hlt
    clear hlt
    generalize hW : w.alloc (.cells #[.int .u64 (IntKind.u64.wrap keep)] 102) = W at *
    have HD1 := HD.out.pure HX.out
    refine (settle_any 47 #[.pointer (some ⟨w.heap.size, 0, none⟩)] W D F d (stayBit (IntKind.u64.wrap keep).toNat) (fun k W' hk hx => someStay k _ _ (by omega) (by have := HU.out; omega) W' (hx.cell (by intro hm; have := HD.out.lt _ hm; simp at this) HC.out)) hp run_someStay HD1).mono ?_
    rintro x w' ⟨rfl, F1, hd1, hs1, hx1⟩
    obtain ⟨h0, dd, kv, pv, hF, hb, hk, hpn⟩ := hd1
    have c0 : w'.cell? ⟨D, 0, none⟩ = some (.int .i64 dd) := by rw [cell_of_block hb]; rfl
    have c1 : w'.cell? ⟨D, 1, none⟩ = some (.int .i64 d.fuse) := by rw [cell_of_block hb]; rfl
    have c2 : w'.cell? ⟨D, 2, none⟩ = some (.bool d.down) := by rw [cell_of_block hb]; rfl
    have f0 : w'.frozen? ⟨D, 0, none⟩ = false := free_of_block hb
    have f1 : w'.frozen? ⟨D, 1, none⟩ = false := free_of_block hb
    have f2 : w'.frozen? ⟨D, 2, none⟩ = false := free_of_block hb
    have HH := Lib.hid (And.intro (And.intro h0 (And.intro hF (And.intro hb (And.intro hk hpn)))) (And.intro hs1 hx1))
    clear h0 hF hb hk hpn hs1 hx1 HD1
    go_wp2_with fail
    go_ret
    rw [HS.out.1]
    obtain ⟨⟨h0, hF, hb, hk, hpn⟩, hs1, hx1⟩ := HH.out
    refine ⟨rfl, DevTo.trans ((Sw.refl w F).trans hs1 HX.out.size) ((HX.out.of_nil).trans hx1 (Sw.refl _ _)) (dev_store (dd := dd) ⟨h0, dd, kv, pv, hF, hb, hk, hpn⟩ hF hk hpn ((((Ex.refl _ _).setCell (.inl (by simp)) _).setCell (.inl (by simp)) _).setCell (.inl (by simp)) _) (block_setCell (block_setCell (block_setCell hb))) rfl rfl rfl ⟨h0.1, h0.2.1, h0.2.2.1, h0.2.2.2.1, by simp⟩)⟩
end Go.Proofs.YtckmpdplmpgniaaGreat
