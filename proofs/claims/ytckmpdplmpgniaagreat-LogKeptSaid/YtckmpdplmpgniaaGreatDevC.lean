/- Contracts of package dev: settle, Flush, Wake. No condition but sizes. -/
import Derived.Test.YtckmpdplmpgniaaGreatDevB
namespace Go.Proofs.YtckmpdplmpgniaaGreat
open Go Go.RowKit

theorem size_shot : (Tryz.prog.info? 154).map (·.size) = some 65 := by kernel_rfl
theorem size_sector : (Tryz.prog.info? 106).map (·.size) = some 64 := by kernel_rfl

theorem encShot_length (p : Nat × List UInt8) (h : p.2.length = 64) : (encShot p).length = 65 := by simp [encShot, encB_length, h]
theorem encShot_one (p : Nat × List UInt8) : ∀ v ∈ encShot p, v.oneCell' = true := by
  intro v hv
  rcases List.mem_cons.1 hv with rfl | hv
  · rfl
  · exact encB_oneCell _ v hv

/-- A pending write, where it lies. -/
theorem DevAt.shot {w : World} {D : Nat} {F : List Nat} {d : Dv} (h : DevAt w D F d) {pa : Option Addr} {pc : Nat} (hc : w.cell? ⟨D, 4, none⟩ = some (.slice pa d.pend.length pc)) (k : Nat) (hk : k < d.pend.length) : ∃ pb, pa = some ⟨pb, 0, none⟩ ∧ w.rangeAt pb (k * 65) (encShot d.pend[k]) ∧ d.pend[k].2.length = 64 ∧ d.pend[k].1 < d.kept.length := by
  obtain ⟨h0, dd, kv, pv, rfl, hb, hkr, hp⟩ := h
  rw [cell_of_block hb] at hc
  obtain rfl : pv = .slice pa d.pend.length pc := by simpa using hc
  obtain ⟨pb, pc', he, _⟩ := hp.form (by omega)
  simp only [Value.slice.injEq, true_and] at he
  obtain ⟨rfl, rfl⟩ := he
  have hl := h0.2.2.2.1 _ (List.getElem_mem hk)
  refine ⟨pb, rfl, own_range hp _ _ fun j u hj => ?_, hl.2, hl.1⟩
  have hj65 : j < 65 := by
    have := (List.getElem?_eq_some_iff.1 hj).1
    rw [encShot_length _ hl.2] at this
    exact this
  rw [flatMap_piece encShot 65 d.pend (fun x hx => encShot_length x (h0.2.2.2.1 x hx).2) k hk j hj65]
  exact hj

/-- The row of what is kept. -/
theorem DevAt.keptRow {w : World} {D : Nat} {F : List Nat} {d : Dv} (h : DevAt w D F d) {kb kc : Nat} (hc : w.cell? ⟨D, 3, none⟩ = some (.slice (some ⟨kb, 0, none⟩) d.kept.length kc)) : Own w 106 64 (.slice (some ⟨kb, 0, none⟩) d.kept.length kc) d.kept.length (d.kept.flatMap encB) ∧ kb ∈ F ∧ kb ≠ D := by
  obtain ⟨h0, dd, kv, pv, rfl, hb, hkr, hp⟩ := h
  have hc' := hc
  rw [cell_of_block hb] at hc
  obtain rfl : kv = .slice (some ⟨kb, 0, none⟩) d.kept.length kc := by simpa using hc
  have := owns_ne hkr hb (by decide)
  simp [Value.ownBlock] at this
  exact ⟨hkr, by simp [bk, Value.ownBlock], fun h => this h.symm⟩

/-- A store of a sector into what is kept. -/
theorem DevAt.set {w : World} {D : Nat} {F : List Nat} {d : Dv} (h : DevAt w D F d) {kb kc : Nat} (hc : w.cell? ⟨D, 3, none⟩ = some (.slice (some ⟨kb, 0, none⟩) d.kept.length kc)) (k : Nat) (hk : k < d.kept.length) (b : List UInt8) (hb : b.length = 64) : DevAt (w.setCells kb (k * 64) (encB b)) D F { d with kept := d.kept.set k b } := by
  obtain ⟨hr, hm, hne⟩ := h.keptRow hc
  obtain ⟨h0, dd, kv, pv, rfl, hbl, hkr, hp⟩ := h
  rw [cell_of_block hbl] at hc
  obtain rfl : kv = .slice (some ⟨kb, 0, none⟩) d.kept.length kc := by simpa using hc
  obtain ⟨s1, s2⟩ := own_setCells (encB b) (k * 64) hr
  refine ⟨⟨by simpa using h0.1, by simpa using h0.2.1, ?_, by simpa using h0.2.2.2.1, h0.2.2.2.2⟩, dd, _, pv, rfl, s2.obj hbl (by simpa using hne.symm), ?_, own_ex hp s2 ?_⟩
  · intro s hs
    rcases List.mem_or_eq_of_mem_set hs with hs | rfl
    · exact h0.2.2.1 s hs
    · exact hb
  · rw [over_piece encB 64 d.kept (fun x hx => by rw [encB_length]; exact h0.2.2.1 x hx) k hk b (by rw [encB_length]; exact hb)] at s1
    simpa using s1
  · intro j hj
    have hkb := hr.2
    rcases hr.2 with ⟨h, _⟩ | ⟨g, cap, cur, he, _, hg, _⟩
    · simp at h
    · simp only [Value.slice.injEq, Option.some.injEq, Addr.mk.injEq, and_true, true_and] at he
      obtain ⟨rfl, rfl⟩ := he
      have := owns_ne hp hg (by decide)
      simp only [bk, Option.mem_toList] at hj
      simp only [List.mem_singleton]
      rintro rfl
      exact this hj.symm

theorem zero_shot : Tryz.zeroCells154.size = 65 := by kernel_rfl

/-- A pending write that was laid into a block of its own. -/
theorem laid_shot (w : World) (p : Nat × List UInt8) (hl : p.2.length = 64) (cs : Array Value) (hc : cs.size = 65) :
    Ex [] w ((w.alloc (.cells cs 154)).setCells w.heap.size 0 (encShot p)) ∧
    Own ((w.alloc (.cells cs 154)).setCells w.heap.size 0 (encShot p)) 154 65 (.slice (some ⟨w.heap.size, 0, none⟩) 1 1) 1 (encShot p) ∧
    w.heap.size < ((w.alloc (.cells cs 154)).setCells w.heap.size 0 (encShot p)).heap.size := by
  have h1 := own_new w cs 154 65 1 (by simpa using hc) (by decide)
  obtain ⟨s1, s2⟩ := own_setCells (encShot p) 0 h1
  rw [over_all _ _ (by rw [encShot_length _ hl]; simp [hc])] at s1
  refine ⟨((Ex.refl [] w).alloc _).off s2 (by simp), s1, ?_⟩
  have := s2.size
  simp at this
  omega

/-- The device amid settling: k pending writes have been looked at. -/
def Amid (w wr : World) (D kb : Nat) (F : List Nat) (d : Dv) (f : Nat → Bool) (k : Nat) : Prop :=
  DevAt wr D F { d with kept := settled f 0 (d.pend.take k) d.kept } ∧ Ex [kb] w wr

theorem amid_step {w wr : World} {D kb : Nat} {F : List Nat} {d : Dv} {f : Nat → Bool} {k : Nat} (hk : k < d.pend.length) {W : World} (h : Amid w wr D kb F d f k) (hW : Ex [] wr W) :
    (f k = false → Amid w W D kb F d f (k + 1)) ∧
    (f k = true → ∀ {kc : Nat}, W.cell? ⟨D, 3, none⟩ = some (.slice (some ⟨kb, 0, none⟩) d.kept.length kc) → Amid w (W.setCells kb (d.pend[k].1 * 64) (encB d.pend[k].2)) D kb F d f (k + 1)) := by
  have hs : ∀ kept, settled f 0 (d.pend.take (k + 1)) kept = if f k then (settled f 0 (d.pend.take k) kept).set d.pend[k].1 d.pend[k].2 else settled f 0 (d.pend.take k) kept := by
    intro kept
    rw [List.take_succ_eq_append_getElem hk, settled_append, List.length_take, Nat.min_eq_left (by omega), Nat.zero_add]
    rfl
  refine ⟨fun hf => ?_, fun hf kc hc => ?_⟩
  · refine ⟨?_, h.2.pure hW⟩
    rw [hs, hf]
    exact h.1.pure hW
  · have h1 := h.1.pure hW
    have hl := h1.1.2.2.2.1 _ (List.getElem_mem hk)
    simp only [settled_length] at hl
    refine ⟨?_, (h.2.pure hW).trans (ex_setCells _) (Sw.refl _ _)⟩
    rw [hs, hf]
    exact h1.set (kc := kc) (by simpa [settled_length] using hc) _ (by simpa [settled_length] using hl.1) _ hl.2

theorem settle_end {w wr : World} {D kb : Nat} {F : List Nat} {d : Dv} {f : Nat → Bool} (hk : kb ∈ F) (h : Amid w wr D kb F d f d.pend.length) : DevTo w D F (d.settle f) (wr.setCell ⟨D, 4, none⟩ (.slice none 0 0)) := by
  obtain ⟨h1, h2⟩ := h
  rw [List.take_length] at h1
  obtain ⟨h0, dd, kv, pv, rfl, hb, hkr, hp⟩ := h1
  refine ⟨_, ⟨⟨?_, ?_, h0.2.2.1, by simp [Dv.settle], h0.2.2.2.2⟩, dd, kv, .slice none 0 0, rfl, block_setCell hb, ?_, World.ownsRow_nil _ _ _ _⟩, ?_, ?_⟩
  · exact h0.1
  · exact h0.2.1
  · exact ownsRow_setCell_other hkr (Ne.symm (owns_ne hkr hb (by decide))) _
  · intro k hk
    left
    simp only [bk, Value.ownBlock, Option.toList_none, List.append_nil, List.mem_cons, List.mem_append] at hk ⊢
    rcases hk with rfl | hk
    · exact .inl rfl
    · exact .inr (.inl hk)
  · exact (h2.weaken fun i hi => by simp at hi; subst hi; exact hk).setCell (.inl (by simp)) _

theorem keep_cell {W : World} {p : Addr} {v : Value} {b : Nat} (h : W.cell? p = some v) (hne : p.block ≠ b) (o : Nat) (vs : List Value) : (W.setCells b o vs).cell? p = some v := (ex_setCells vs).cell (by simpa using hne) h
theorem keep_range {W : World} {b' o' b : Nat} {cs : List Value} (h : W.rangeAt b' o' cs) (hne : b' ≠ b) (o : Nat) (vs : List Value) : (W.setCells b o vs).rangeAt b' o' cs := World.rangeAt_setCells_apart h b o vs (.inl hne)

set_option maxRecDepth 100000 in
set_option maxHeartbeats 4000000 in
theorem settle_any (fn : Nat) (caps : Array Value) (w : World) (D : Nat) (F : List Nat) (d : Dv) (f : Nat → Bool)
    (hcl : ∀ (k : Nat) (W : World), k < d.pend.length → Ex F w W → Calls Tryz.prog fn (#[.int .i64 k] ++ caps) W fun x W' => x = .returned (.bool (f k)) ∧ ∃ n, W' = W.drewN n) (hp : d.pend.length ≤ 1000000)
    (hrun : ∀ args W, (callFunc fn args).run Tryz.prog W = .ok (.enter fn args) W) (h : DevAt w D F d) :
    Calls Tryz.prog 46 #[.pointer (some ⟨D, 0, none⟩), .func (.func fn) #[] caps] w fun x w' => x = .returned (.tuple #[]) ∧ DevTo w D F (d.settle f) w' := by
  obtain ⟨dd, kb, kc, pa, pc, c0, c1, c2, c3, c4, hf⟩ := h.cells
  have HD := Lib.hid h
  have HCL := Lib.hid hcl
  have HC3 := Lib.hid c3
  have HC4 := Lib.hid c4
  obtain ⟨_, hkF, hkD⟩ := h.keptRow c3
  have hDF := h.mem
  have hk8 := h.1.2.1
  have hAt := Lib.hid h.1.2.2.2.1
  clear hf c1 h c0 c2 c3 hcl
  go_enter Tryz.func46, Tryz.ntmps46
  go_wp2
  go_loopw [11] (fun i wr => ∃ k : Nat, k ≤ d.pend.length ∧ i = .int .i64 k ∧ Hid (Amid w wr D kb F d f k)) (fun i _ => d.pend.length - (intOf i).toNat)
  case atStart => exact ⟨0, by omega, rfl, by simpa [settled] using HD.out, Ex.refl _ _⟩
  case round =>
    obtain ⟨k, hk, rfl, ha⟩ := hrel
    clear c4
    have d3 : wr.cell? ⟨D, 3, none⟩ = some (.slice (some ⟨kb, 0, none⟩) d.kept.length kc) := ha.out.2.cell (by simpa using hkD.symm) HC3.out
    by_cases hlt : k < d.pend.length
    · have d4 : wr.cell? ⟨D, 4, none⟩ = some (.slice pa d.pend.length pc) := ha.out.2.cell (by simpa using hkD.symm) HC4.out
      obtain ⟨pb, rfl, hrg, hl64, hat⟩ := DevAt.shot ha.out.1 d4 k hlt
      have hkr := (DevAt.keptRow (kb := kb) (kc := kc) ha.out.1 (by simpa [settled_length] using d3)).1
      simp only [settled_length] at hat hkr
      have HST := Lib.hid (fun (W : World) => amid_step (W := W) hlt ha.out)
      have HR := Lib.hid hrg
      have HLS := Lib.hid (laid_shot wr d.pend[k] hl64 Tryz.zeroCells154 zero_shot)
      have HKR := Lib.hid hkr
      have hu := Tryz.underlying154
      have hi : (Tryz.prog.info? 154).map (·.size) = some (encShot d.pend[k]).length := by rw [size_shot, encShot_length _ hl64]
      have HI := Lib.hid hi
      clear hrg hi d4 hkr
      generalize d.pend[k] = p at *
      go_wp2_with (first | (with_reducible refine wpList_load_mid rfl 154 _ rfl pb (k * 65) rfl _ _ HR.out Tryz.underlying154 rfl HI.out ?_) | (with_reducible refine wpList_store_mid rfl 154 _ _ rfl wr.heap.size 0 (encShot p).toArray rfl rfl (own_there (own_new wr Tryz.zeroCells154 154 65 1 (by simp) (by decide)) 0 _ (by simpa using Nat.le_of_eq (encShot_length _ hl64))) (by simpa using HI.out) (all_oneCell_toArray (encShot_one p)) ?_))
      have e1 := HLS.out.1
      have c3' := e1.cell (by simp) d3
      clear d3
      have e2 := HST.out _ e1
      have e3 := HLS.out.2.1
      have e4 := HLS.out.2.2
      have e5 := ((ha.out.2).weaken (F' := F) (fun i hi => by simp at hi; subst hi; exact hkF)).pure e1
      have hkr' := own_pure HKR.out e1
      have HHL := Lib.hid e4
      have ne1 := World.new_ne _ _ c3'
      generalize hW : (wr.alloc (.cells Tryz.zeroCells154 154)).setCells wr.heap.size 0 (encShot p) = W at *
      refine (HCL.out k W hlt e5).mono ?_
      rintro x w' ⟨rfl, n, rfl⟩
      cases hfk : f k with
      | false =>
        go_wp2_with fail
        refine ⟨⟨k + 1, by omega, by go_num, ?_⟩, by simp [intOf]; omega⟩
        have := e2.1 hfk
        exact ⟨this.1.pure ((Ex.refl [] _).drewN _), this.2.pure ((Ex.refl [] _).drewN _)⟩
      | true =>
        go_wp2_with fail
        have x0 : (W.drewN n).cell? ⟨wr.heap.size, 0, none⟩ = some (.int .i64 p.1) := by
          have := e3.cellAt (g := wr.heap.size) 0 (by decide)
          simpa [encShot] using this
        have x1 : (W.drewN n).rangeAt wr.heap.size 1 (encB p.2) := own_range e3 1 _ fun j u hj => by rw [Nat.add_comm]; exact hj
        have x2 : (W.drewN n).there kb (p.1 * 64) 64 := own_there hkr' _ _ (by omega)
        have x3 : (W.drewN n).cell? ⟨D, 3, none⟩ = some (.slice (some ⟨kb, 0, none⟩) d.kept.length kc) := c3'
        have e2' := (HST.out ((W.drewN n).drew) ((e1.drewN n).drew)).2 hfk c3'
        have HE2 := Lib.hid e2'
        clear hkr' e3 e1 e2 hfk c3' e2' e4 e5
        have nD : D ≠ kb := hkD.symm
        have nH : wr.heap.size ≠ kb := by
          have := own_lt HKR.out kb (by simp [bk, Value.ownBlock])
          omega
        generalize hWn : W.drewN n = Wn at *
        have xu := Tryz.underlying106
        have xi : (Tryz.prog.info? 106).map (·.size) = some (encB p.2).length := by rw [size_sector, encB_length, hl64]
        have xl : (encB p.2).length = 64 := by rw [encB_length, hl64]
        have xo := encB_oneCell p.2
        go_region_held3 (fun w' => w'.cell? ⟨D, 3, none⟩ = some (.slice (some ⟨kb, 0, none⟩) d.kept.length kc) ∧ w'.cell? ⟨wr.heap.size, 0, none⟩ = some (.int .i64 p.1) ∧ w'.rangeAt wr.heap.size 1 (encB p.2) ∧ w'.there kb (p.1 * 64) 64) ((go_split_ands; (repeat' apply And.intro) <;> first | (simp [*]; done) | (refine keep_cell ?_ ?_ _ _ <;> first | assumption | (simp [*]; done)) | (refine keep_range ?_ ?_ _ _ <;> first | assumption | (simp [*]; done)) | (refine World.there_setCells ?_ _ _ _; first | assumption | (simp [*]; done)))) (fail)
        subst hWn
        go_wp2_with fail
        refine ⟨⟨k + 1, by omega, by go_num, ?_⟩, by simp [intOf]; omega⟩
        exact HE2.out
    · have f4 : wr.frozen? ⟨D, 4, none⟩ = false := by
        obtain ⟨_, _, _, _, _, _, _, _, _, _, hfz⟩ := ha.out.1.cells
        exact hfz 4
      have c4' : ∃ u, wr.cell? ⟨D, 4, none⟩ = some u := by
        obtain ⟨_, _, _, _, _, _, _, _, _, h4, _⟩ := ha.out.1.cells
        exact ⟨_, h4⟩
      obtain ⟨u4, c4⟩ := c4'
      clear d3
      go_wp2_with fail
      go_end0
      obtain rfl : k = d.pend.length := by omega
      exact ⟨rfl, settle_end hkF ha.out⟩

set_option maxRecDepth 100000 in
theorem run_allStays (args : Array Value) (W : World) : (callFunc 104 args).run Tryz.prog W = .ok (.enter 104 args) W := rfl

set_option maxHeartbeats 1000000 in
/-- Flush's closure: all stays. -/
theorem allStays (k : Int) (w : World) : Calls Tryz.prog 104 #[.int .i64 k] w fun x w' => x = .returned (.bool true) ∧ ∃ n, w' = w.drewN n := by
  go_enter Tryz.func104, Tryz.ntmps104
  go_wp2
  go_ret
  exact ⟨rfl, 0, rfl⟩

set_option maxHeartbeats 2000000 in
theorem Flush_any (w : World) (D : Nat) (F : List Nat) (d : Dv) (hp : d.pend.length ≤ 1000000) (h : DevAt w D F d) :
    Calls Tryz.prog 74 #[.pointer (some ⟨D, 0, none⟩)] w fun x w' => x = .returned (.int .i64 d.flush.1) ∧ DevTo w D F d.flush.2 w' := by
  have HD := Lib.hid h
  cases hd : d.down with
  | true =>
    have HS : Hid (d.flush = (10, d) ∧ d.able = 10) := ⟨by unfold Dv.flush; rw [hd]; rfl, by unfold Dv.able; rw [hd]; rfl⟩
    clear hd
    go_enter Tryz.func74, Tryz.ntmps74
    go_wp2_with fail
    refine (able_any w D F d HD.out).mono ?_
    rintro x w' ⟨rfl, rfl⟩
    rw [HS.out.2]
    go_wp2_with fail
    go_ret
    rw [HS.out.1]
    exact ⟨rfl, DevTo.refl HD.out⟩
  | false =>
    have HA : Hid (d.able = 0) := by show _ = _; unfold Dv.able; rw [hd]; rfl
    by_cases h1 : d.fuse = 1
    · have HS : Hid (d.flush = (10, { d with fuse := 0, down := true }) ∧ d.next = (10, { d with fuse := 0, down := true })) := ⟨by unfold Dv.flush; rw [hd, if_pos h1]; rfl, by unfold Dv.next; rw [if_pos h1]⟩
      clear hd h1
      go_enter Tryz.func74, Tryz.ntmps74
      go_wp2_with fail
      refine (able_any w D F d HD.out).mono ?_
      rintro x w' ⟨rfl, rfl⟩
      rw [HA.out]
      go_wp2_with fail
      refine (next_any w D F d HD.out).mono ?_
      rintro x w' ⟨rfl, ht⟩
      rw [HS.out.2] at ht ⊢
      have HT := Lib.hid ht
      clear ht
      go_wp2_with fail
      go_ret
      rw [HS.out.1]
      exact ⟨rfl, HT.out⟩
    · have HS : Hid (d.flush = (0, { d with fuse := d.fuse - 1 }.settle fun _ => true) ∧ d.next = (0, { d with fuse := d.fuse - 1 })) := ⟨by unfold Dv.flush; rw [hd, if_neg h1]; rfl, by unfold Dv.next; rw [if_neg h1]⟩
      clear hd h1
      go_enter Tryz.func74, Tryz.ntmps74
      go_wp2_with fail
      refine (able_any w D F d HD.out).mono ?_
      rintro x w' ⟨rfl, rfl⟩
      rw [HA.out]
      go_wp2_with fail
      refine (next_any w D F d HD.out).mono ?_
      rintro x w' ⟨rfl, ht⟩
      rw [HS.out.2] at ht ⊢
      obtain ⟨F1, ht, hs1, hx1⟩ := ht
      have HT := Lib.hid ht
      have HX := Lib.hid (And.intro hs1 hx1)
      clear ht hs1 hx1
      go_wp2_with fail
      refine (settle_any 104 #[] w' D F1 { d with fuse := d.fuse - 1 } (fun _ => true) (fun k W _ _ => allStays k W) hp run_allStays HT.out).mono ?_
      rintro x w2 ⟨rfl, ht⟩
      have HU := Lib.hid ht
      clear ht
      go_wp2_with fail
      go_ret
      rw [HS.out.1]
      exact ⟨rfl, DevTo.trans HX.out.1 HX.out.2 HU.out⟩

end Go.Proofs.YtckmpdplmpgniaaGreat
