/- Contracts of package dev: the small ones. No condition but sizes. -/
import Derived.Test.YtckmpdplmpgniaaGreatProg
import Derived.Test.YtckmpdplmpgniaaGreatMemB
import Derived.Test.YtckmpdplmpgniaaGreatBits
import Derived.Test.YtckmpdplmpgniaaGreatPlain
import Derived.ProofKit
import Derived.WalkKit
import Derived.WalkLawsBesides
import Derived.WalkSpells
import Derived.Lib.Hide
import Derived.Deep.QuietTactic
import Derived.BigQuiet
namespace Go.Proofs.YtckmpdplmpgniaaGreat
open Go Go.RowKit

/-- The cells of a pending write. -/
def encShot (p : Nat × List UInt8) : List Value := .int .i64 p.1 :: encB p.2

/-- A device at a block. -/
def DevAt (w : World) (D : Nat) (F : List Nat) (d : Dv) : Prop :=
  d.ok ∧ ∃ (dd : Int) (kv pv : Value), F = D :: (bk kv ++ bk pv) ∧ w.heap[D]? = some (.cells #[.int .i64 dd, .int .i64 d.fuse, .bool d.down, kv, pv] 80 (0, 0)) ∧
    Own w 106 64 kv d.kept.length (d.kept.flatMap encB) ∧ Own w 154 65 pv d.pend.length (d.pend.flatMap encShot)

/-- From one world to another one a device has come to this; nothing else has turned. -/
def DevTo (w : World) (D : Nat) (F : List Nat) (d : Dv) (w' : World) : Prop := ∃ F', DevAt w' D F' d ∧ Sw w F F' ∧ Ex F w w'

theorem DevAt.ex {w w' : World} {D : Nat} {F G : List Nat} {d : Dv} (h : DevAt w D F d) (hx : Ex G w w') (hd : ∀ k ∈ F, k ∉ G) : DevAt w' D F d := by
  obtain ⟨h0, dd, kv, pv, rfl, hb, hk, hp⟩ := h
  exact ⟨h0, dd, kv, pv, rfl, hx.obj hb (hd _ (by simp)), own_ex hk hx fun k hk => hd k (by simp [hk]), own_ex hp hx fun k hk => hd k (by simp [hk])⟩

theorem DevAt.pure {w w' : World} {D : Nat} {F : List Nat} {d : Dv} (h : DevAt w D F d) (hx : Ex [] w w') : DevAt w' D F d := h.ex hx fun _ _ => by simp

theorem DevAt.lt {w : World} {D : Nat} {F : List Nat} {d : Dv} (h : DevAt w D F d) : ∀ k ∈ F, k < w.heap.size := by
  obtain ⟨h0, dd, kv, pv, rfl, hb, hk, hp⟩ := h
  intro k hm
  simp only [List.mem_cons, List.mem_append] at hm
  rcases hm with rfl | hm | hm
  · exact lt_of_block hb
  · exact own_lt hk k hm
  · exact own_lt hp k hm

theorem DevAt.mem {w : World} {D : Nat} {F : List Nat} {d : Dv} (h : DevAt w D F d) : D ∈ F := by
  obtain ⟨h0, dd, kv, pv, rfl, _⟩ := h
  simp

theorem DevTo.refl {w : World} {D : Nat} {F : List Nat} {d : Dv} (h : DevAt w D F d) : DevTo w D F d w := ⟨F, h, Sw.refl _ _, Ex.refl _ _⟩
theorem DevTo.trans {w w1 w2 : World} {D : Nat} {F F1 : List Nat} {d : Dv} (hs : Sw w F F1) (hx : Ex F w w1) (h : DevTo w1 D F1 d w2) : DevTo w D F d w2 := by
  obtain ⟨F2, hm, hs2, hx2⟩ := h
  exact ⟨F2, hm, hs.trans hs2 hx.size, hx.trans hx2 hs⟩

/-- What a walk wants of a device: its five cells, that they may be written. -/
theorem DevAt.cells {w : World} {D : Nat} {F : List Nat} {d : Dv} (h : DevAt w D F d) : ∃ (dd : Int) (kb : Nat) (kc : Nat) (pa : Option Addr) (pc : Nat),
    w.cell? ⟨D, 0, none⟩ = some (.int .i64 dd) ∧ w.cell? ⟨D, 1, none⟩ = some (.int .i64 d.fuse) ∧ w.cell? ⟨D, 2, none⟩ = some (.bool d.down) ∧ w.cell? ⟨D, 3, none⟩ = some (.slice (some ⟨kb, 0, none⟩) d.kept.length kc) ∧ w.cell? ⟨D, 4, none⟩ = some (.slice pa d.pend.length pc) ∧ (∀ j, w.frozen? ⟨D, j, none⟩ = false) := by
  obtain ⟨h0, dd, kv, pv, rfl, hb, hk, hp⟩ := h
  obtain ⟨kb, kc, hkv, _⟩ := hk.form (by have := h0.1; omega)
  obtain ⟨pa, pc, hpv, _⟩ := (rd_of_owns hp).2
  refine ⟨dd, kb, kc, pa, pc, ?_, ?_, ?_, ?_, ?_, fun j => free_of_block hb⟩ <;> rw [cell_of_block hb] <;> simp [hkv, hpv]

/-- A sector that is kept, as a slice. -/
theorem DevAt.sector {w : World} {D : Nat} {F : List Nat} {d : Dv} (h : DevAt w D F d) {kb kc : Nat} (hc : w.cell? ⟨D, 3, none⟩ = some (.slice (some ⟨kb, 0, none⟩) d.kept.length kc)) (k : Nat) (hk : k < d.kept.length) : Rd w 1 (.slice (some ⟨kb, k * 64, none⟩) 64 64) 64 (encB d.kept[k]) ∧ kb ∈ F ∧ d.kept[k].length = 64 := by
  obtain ⟨h0, dd, kv, pv, rfl, hb, hkr, hp⟩ := h
  rw [cell_of_block hb] at hc
  obtain rfl : kv = .slice (some ⟨kb, 0, none⟩) d.kept.length kc := by simpa using hc
  have hl : d.kept[k].length = 64 := h0.2.2.1 _ (List.getElem_mem hk)
  refine ⟨⟨by rw [encB_length, hl], _, 64, rfl, Nat.le_refl _, by decide, by simp, fun _ => ⟨kb, k * 64, rfl, fun j u hj => ?_⟩⟩, by simp [bk, Value.ownBlock], hl⟩
  have hj64 : j < 64 := by
    have := (List.getElem?_eq_some_iff.1 hj).1
    rw [encB_length, hl] at this
    exact this
  have h1 := flatMap_piece encB 64 d.kept (fun x hx => by rw [encB_length]; exact h0.2.2.1 x hx) k hk j hj64
  rw [hj] at h1
  have := hkr.cells (g := kb) rfl (k * 64 + j) u h1
  simpa [Addr.add_lit] using this

set_option maxHeartbeats 400000 in
theorem none_any (w : World) (D : Nat) (F : List Nat) (d : Dv) (h : DevAt w D F d) :
    Calls Tryz.prog 49 #[.pointer (some ⟨D, 0, none⟩)] w fun x w' => x = .returned (.bool false) ∧ w = w' := by
  obtain ⟨dd, kb, kc, pa, pc, c0, c1, c2, c3, c4, hf⟩ := h.cells
  have q := Lib.run_eql_slice_nil (P := Tryz.prog) w 75 106 (some ⟨kb, 0, none⟩) d.kept.length kc 0 0 Tryz.underlying75
  clear hf h c0 c1 c2 c4
  go_enter Tryz.func49, Tryz.ntmps49
  go_wp2
  go_ret
  exact ⟨rfl, rfl⟩

/-- What able() answers. -/
def Dv.able (d : Dv) : Nat := if d.down then 10 else 0

set_option maxHeartbeats 400000 in
theorem able_any (w : World) (D : Nat) (F : List Nat) (d : Dv) (h : DevAt w D F d) :
    Calls Tryz.prog 44 #[.pointer (some ⟨D, 0, none⟩)] w fun x w' => x = .returned (.int .i64 d.able) ∧ w = w' := by
  obtain ⟨dd, kb, kc, pa, pc, c0, c1, c2, c3, c4, hf⟩ := h.cells
  have HD := Lib.hid h
  clear hf h c0 c1 c3 c4
  cases hd : d.down
  all_goals
    have HE : Hid (d.able = if d.down then 10 else 0) := rfl
    have HDD := Lib.hid hd
    rw [hd] at c2
    clear hd
    go_enter Tryz.func44, Tryz.ntmps44
    go_wp2_with (go_at_call 49; refine (none_any w D F d HD.out).mono ?_; rintro x w' ⟨rfl, rfl⟩)
    go_ret
    exact ⟨by rw [HE.out, HDD.out]; rfl, rfl⟩

set_option maxHeartbeats 400000 in
theorem has_any (w : World) (D : Nat) (F : List Nat) (d : Dv) (at_ : Int) (h1 : -9223372036854775808 ≤ at_) (h2 : at_ ≤ 9223372036854775807) (h : DevAt w D F d) :
    Calls Tryz.prog 75 #[.pointer (some ⟨D, 0, none⟩), .int .i64 at_] w fun x w' => x = .returned (.bool (d.has at_)) ∧ w = w' := by
  obtain ⟨dd, kb, kc, pa, pc, c0, c1, c2, c3, c4, hf⟩ := h.cells
  have hk := h.1.2.1
  clear hf h c0 c1 c2 c4
  go_enter Tryz.func75, Tryz.ntmps75
  go_wp2
  go_ret
  have e : decide (IntKind.u64.wrap at_ < (d.kept.length : Int)) = d.has at_ := by
    unfold Dv.has
    rw [decide_eq_decide]
    rcases (show at_ < 0 ∨ 0 ≤ at_ from by omega) with h | h
    · rw [wrap_u64_neg at_ h h1]; omega
    · obtain ⟨n, rfl⟩ := Int.eq_ofNat_of_zero_le h
      rw [wrap_u64 n (by omega)]; omega
  exact ⟨by rw [← e]; rfl, rfl⟩

theorem ok_next {d : Dv} (h : d.ok) : d.next.2.ok := by
  obtain ⟨h1, h2, h3, h4, h5⟩ := h
  unfold Dv.next
  split
  · exact ⟨h1, h2, h3, h4, by simp⟩
  · exact ⟨h1, h2, h3, h4, by simp; omega⟩

/-- A store into the device's own cells. -/
theorem dev_store {w : World} {D : Nat} {F : List Nat} {d d' : Dv} {cs : Array Value} {kv pv : Value} {dd : Int} (h : DevAt w D F d) (hF : F = D :: (bk kv ++ bk pv)) (hk : Own w 106 64 kv d.kept.length (d.kept.flatMap encB)) (hp : Own w 154 65 pv d.pend.length (d.pend.flatMap encShot))
    {w' : World} (hx : Ex [D] w w') (hb : w'.heap[D]? = some (.cells cs 80 (0, 0))) (hcs : cs = #[.int .i64 dd, .int .i64 d'.fuse, .bool d'.down, kv, pv]) (hk' : d'.kept = d.kept) (hp' : d'.pend = d.pend) (hok : d'.ok) : DevTo w D F d' w' := by
  obtain ⟨_, _, _, _, _, hb0, _, _⟩ := h
  subst hcs hF
  refine ⟨_, ⟨hok, dd, kv, pv, rfl, hb, ?_, ?_⟩, Sw.refl _ _, hx.weaken (by simp)⟩
  · rw [hk']
    refine own_ex hk hx fun k hk1 => ?_
    have := owns_ne hk hb0 (by decide)
    simp only [bk, Option.mem_toList] at hk1
    simp only [List.mem_singleton]
    rintro rfl
    exact this hk1.symm
  · rw [hp']
    refine own_ex hp hx fun k hk1 => ?_
    have := owns_ne hp hb0 (by decide)
    simp only [bk, Option.mem_toList] at hk1
    simp only [List.mem_singleton]
    rintro rfl
    exact this hk1.symm

set_option maxHeartbeats 1000000 in
theorem next_any (w : World) (D : Nat) (F : List Nat) (d : Dv) (h : DevAt w D F d) :
    Calls Tryz.prog 103 #[.pointer (some ⟨D, 0, none⟩)] w fun x w' => x = .returned (.int .i64 d.next.1) ∧ DevTo w D F d.next.2 w' := by
  obtain ⟨dd, kb, kc, pa, pc, c0, c1, c2, c3, c4, hf⟩ := h.cells
  have HD := Lib.hid h
  obtain ⟨hok, dd', kv, pv, hF, hb, hk, hp⟩ := h
  have f0 := hf 0
  have f1 := hf 1
  have f2 := hf 2
  obtain rfl : dd = dd' := by
    rw [cell_of_block hb] at c0
    simpa using c0.symm
  have HF := Lib.hid hF
  have HB := Lib.hid hb
  have HK := Lib.hid hk
  have HP := Lib.hid hp
  have hfu := hok.2.2.2.2
  have HOK := Lib.hid (ok_next hok)
  clear hf hF hb hk hp hok c3 c4
  by_cases h1 : d.fuse = 1
  · have HN : Hid (d.next = (10, { d with fuse := 0, down := true })) := by show _ = _; unfold Dv.next; rw [if_pos h1]
    have b1 : ((d.fuse : Int) == 1) = true := by rw [h1]; rfl
    rw [HN.out] at HOK
    clear h1
    go_enter Tryz.func103, Tryz.ntmps103
    go_wp2
    go_ret
    rw [HN.out]
    refine ⟨rfl, dev_store HD.out HF.out HK.out HP.out (((Ex.refl _ _).setCell (.inl (by simp)) _).setCell (.inl (by simp)) _) (block_setCell (block_setCell HB.out)) rfl rfl rfl HOK.out⟩
  · have HN : Hid (d.next = (0, { d with fuse := d.fuse - 1 })) := by show _ = _; unfold Dv.next; rw [if_neg h1]
    have b1 : ((d.fuse : Int) == 1) = false := by simp; omega
    rw [HN.out] at HOK
    by_cases h0 : d.fuse = 0
    · have b0 : ((d.fuse : Int) == 0) = true := by rw [h0]; rfl
      have H0 := Lib.hid h0
      clear h0 h1
      go_enter Tryz.func103, Tryz.ntmps103
      go_wp2
      go_ret
      rw [HN.out]
      refine ⟨rfl, dev_store (dd := wrap64 (dd + 1)) HD.out HF.out HK.out HP.out ((Ex.refl _ _).setCell (.inl (by simp)) _) (block_setCell HB.out) ?_ rfl rfl HOK.out⟩
      rw [H0.out]
      rfl
    · have b0 : ((d.fuse : Int) == 0) = false := by simp; omega
      have H0 := Lib.hid h0
      have hpos : 1 ≤ d.fuse := by omega
      clear h0 h1
      go_enter Tryz.func103, Tryz.ntmps103
      go_wp2
      go_ret
      rw [HN.out]
      refine ⟨rfl, dev_store (dd := wrap64 (dd + 1)) HD.out HF.out HK.out HP.out (((Ex.refl _ _).setCell (.inl (by simp)) _).setCell (.inl (by simp)) _) (block_setCell (block_setCell HB.out)) ?_ rfl rfl HOK.out⟩
      have e : ((d.fuse - 1 : Nat) : Int) = (d.fuse : Int) - 1 := by omega
      simp [e]
set_option maxHeartbeats 1000000 in
theorem Fuse_any (w : World) (D : Nat) (F : List Nat) (d : Dv) (n : Int) (hn : n ≤ 9223372036854775807) (h : DevAt w D F d) :
    Calls Tryz.prog 14 #[.pointer (some ⟨D, 0, none⟩), .int .i64 n] w fun x w' => (∃ e : Int, x = .returned (.int .i64 e)) ∧ DevTo w D F (d.setFuse n) w' := by
  obtain ⟨dd, kb, kc, pa, pc, c0, c1, c2, c3, c4, hf⟩ := h.cells
  have HD := Lib.hid h
  obtain ⟨hok, dd', kv, pv, hF, hb, hk, hp⟩ := h
  have f1 := hf 1
  have HF := Lib.hid hF
  have HB := Lib.hid hb
  have HK := Lib.hid hk
  have HP := Lib.hid hp
  have HOK : Hid (d.setFuse n).ok := by
    obtain ⟨h1, h2, h3, h4, h5⟩ := hok
    show (d.setFuse n).ok
    unfold Dv.setFuse
    split
    · exact ⟨h1, h2, h3, h4, h5⟩
    · exact ⟨h1, h2, h3, h4, by simp; omega⟩
  clear hf hF hb hk hp hok c3 c4 c2 c0
  cases hd : d.down with
  | true =>
    have HS : Hid (d.setFuse n = d ∧ d.able = 10) := ⟨by unfold Dv.setFuse; rw [hd]; rfl, by unfold Dv.able; rw [hd]; rfl⟩
    clear hd
    go_enter Tryz.func14, Tryz.ntmps14
    go_wp2_with fail
    refine (able_any w D F d HD.out).mono ?_
    rintro x w' ⟨rfl, rfl⟩
    rw [HS.out.2]
    go_wp2_with fail
    go_ret
    rw [HS.out.1]
    exact ⟨⟨_, rfl⟩, DevTo.refl HD.out⟩
  | false =>
    have HS : Hid (d.setFuse n = { d with fuse := n.toNat } ∧ d.able = 0) := ⟨by unfold Dv.setFuse; rw [hd]; rfl, by unfold Dv.able; rw [hd]; rfl⟩
    clear hd
    by_cases hpos : 0 ≤ n
    all_goals
      go_enter Tryz.func14, Tryz.ntmps14
      go_wp2_with fail
      refine (able_any w D F d HD.out).mono ?_
      rintro x w' ⟨rfl, rfl⟩
      rw [HS.out.2]
      go_wp2_with fail
      go_ret
      rw [HS.out.1] at HOK ⊢
    · exact ⟨⟨_, rfl⟩, dev_store (dd := dd') HD.out HF.out HK.out HP.out ((Ex.refl _ _).setCell (.inl (by simp)) _) (block_setCell HB.out) (by simp; omega) rfl rfl HOK.out⟩
    · exact ⟨⟨_, rfl⟩, dev_store (dd := dd') HD.out HF.out HK.out HP.out ((Ex.refl _ _).setCell (.inl (by simp)) _) (block_setCell HB.out) (by simp; omega) rfl rfl HOK.out⟩

theorem info_sector : (Tryz.prog.info? 106).map (fun i => (i.zero, i.size, i.bytes)) = some (some (.agg (Array.replicate 64 (.int .u8 0))), 64, 64) := by kernel_rfl

/-- A new device. -/
def newDv (n : Nat) : Dv := { fuse := 0, down := false, kept := List.replicate n (List.replicate 64 0), pend := [] }

theorem made_sectors (n : Nat) : (madeCells (Value.agg (Array.replicate 64 (.int .u8 0))).cells (n * 64)).toList = (List.replicate n (List.replicate 64 (0 : UInt8))).flatMap encB := by
  have e : (List.replicate n (List.replicate 64 (0 : UInt8))).flatMap encB = List.replicate (n * 64) (Value.int .u8 0) := by
    induction n with
    | zero => rfl
    | succ n ih =>
      rw [List.replicate_succ, List.flatMap_cons, ih, Nat.succ_mul, Nat.add_comm, ← List.replicate_append_replicate]
      congr 1
  have hc : (Value.agg (Array.replicate 64 (.int .u8 0))).cells = Array.replicate 64 (.int .u8 0) := by kernel_rfl
  rw [e, hc]
  apply List.ext_getElem?
  intro j
  by_cases hj : j < n * 64
  · have h64 : j % 64 < 64 := Nat.mod_lt _ (by decide)
    simp [madeCells, hj, h64]
  · simp [madeCells, hj]

set_option maxRecDepth 100000 in
set_option maxHeartbeats 1000000 in
theorem New_good (w : World) (n : Nat) (h1 : 1 ≤ n) (h2 : n ≤ 8192) :
    Calls Tryz.prog 9 #[.int .i64 n] w fun x w' => ∃ D F, x = .returned (.tuple #[.pointer (some ⟨D, 0, none⟩), .int .i64 0]) ∧ DevAt w' D F (newDv n) ∧ (∀ k ∈ F, w.heap.size ≤ k) ∧ Ex [] w w' := by
  obtain ⟨i0, hi, hz0, hz1, hz2⟩ := info_parts info_sector
  go_enter Tryz.func9, Tryz.ntmps9
  go_wp2_with (at_make; go_loud (refine wpList_make_full _ rfl _ _ 75 rfl 0 106 i0 _ 64 Tryz.underlying75 hi hz0 hz1 _ _ _ _ n rfl rfl rfl rfl (by rw [hz2]; omega) (by unfold maxLen; omega) (Nat.zero_le _) ?_); intro w1 hown hgrow)
  go_ret2
  have hx : Ex [] w w1 := (Ex.refl [] w).grown hgrow (by simp)
  rw [made_sectors] at hown
  refine ⟨w1.heap.size, _, rfl, ⟨⟨by simp [newDv]; omega, by simp [newDv]; omega, by simp [newDv], by simp [newDv], by simp [newDv]⟩, 0, _, .slice none 0 0, rfl, heap_alloc_new _ _, ?_, World.ownsRow_nil _ _ _ _⟩, ?_, hx.alloc _⟩
  · have : (newDv n).kept.length = n := by simp [newDv]
    rw [this]
    exact hown.alloc _
  · intro k hk
    simp [bk, Value.ownBlock] at hk
    have := hx.size
    omega
end Go.Proofs.YtckmpdplmpgniaaGreat
