/- Contracts of package log: writing bytes at a place of a region. No condition but ranges. -/
import Derived.Test.YtckmpdplmpgniaaGreatLogJ
import Derived.Test.YtckmpdplmpgniaaGreatSheets
import Derived.Test.YtckmpdplmpgniaaGreatPlain
namespace Go.Proofs.YtckmpdplmpgniaaGreat
open Go Go.RowKit

/-- How many sectors so many bytes from a place on touch. -/
def touched (at_ k : Nat) : Nat := if k = 0 then 0 else (at_ + k - 1) / 64 - at_ / 64 + 1

/-- The sheets when so many bytes have come. -/
def Laid (w wr : World) (mb f at_ : Nat) (d : Dv) (b : List UInt8) (k : Nat) (vs : List Value) : Prop :=
  vs.length = touched at_ k ∧ Sheets wr mb (f + at_ / 64) vs ∧ w.heap.size ≤ mb ∧ Ex [] w wr ∧
    (∀ i (h : i < vs.length), (∃ a c, vs[i] = .slice a 64 c) ∧ Own wr 5 1 vs[i] 64 (encB (mix (d.seen (f + at_ / 64 + i)) (at_ / 64 + i) at_ (b.take k))) ∧ (∀ j ∈ bk vs[i], w.heap.size ≤ j)) ∧
    vs.Pairwise (fun u v => ∀ j ∈ bk u, j ∉ bk v)

theorem encB_set (l : List UInt8) (i : Nat) (x : UInt8) : (encB l).set i (.int .u8 (x.toNat : Int)) = encB (l.set i x) := by simp [encB, List.map_set]

theorem sheets_ne {w : World} {mb f g n : Nat} {vs : List Value} {e : TypeId} {c : Nat} {xs : List Value} (h : Sheets w mb f vs) (ho : Own w e 1 (.slice (some ⟨g, 0, none⟩) n c) n xs) : mb ≠ g := by
  obtain ⟨D, ⟨es, clock, hb, _⟩, _⟩ := h
  rcases ho.2 with ⟨h, _⟩ | ⟨g', cap, cur, he, _, hg, _⟩
  · simp at h
  · simp only [Value.slice.injEq, Option.some.injEq, Addr.mk.injEq, and_true, true_and] at he
    obtain ⟨rfl, rfl⟩ := he
    rintro rfl
    rw [hb] at hg
    simp at hg

/-- One byte more, into a sheet that is there. -/
theorem Laid.step_in {w wr : World} {mb f at_ k g cc : Nat} {d : Dv} {b : List UInt8} {vs : List Value} (hl : Laid w wr mb f at_ d b k vs) (hk : k < b.length) (hin : (at_ + k) / 64 - at_ / 64 < vs.length) (hva : vs[(at_ + k) / 64 - at_ / 64] = .slice (some ⟨g, 0, none⟩) 64 cc) :
    Laid w (wr.setCell ⟨g, (at_ + k) % 64, none⟩ (.int .u8 (b[k].toNat : Int))) mb f at_ d b (k + 1) vs := by
  obtain ⟨h1, h2, h3, h4, h5, h6⟩ := hl
  have hpos : 0 < k := by
    rcases Nat.eq_zero_or_pos k with h | h
    · subst h; simp [touched] at h1; subst h1; simp at hin
    · exact h
  have h1' := h1
  rw [touched, if_neg (by omega)] at h1'
  have hi : (at_ + k) / 64 - at_ / 64 + 1 = vs.length := by omega
  have hlen2 : (b.take k).length = k := by rw [List.length_take]; omega
  obtain ⟨hs, ho, hn⟩ := h5 _ hin
  rw [hva] at ho hn
  have hgw : w.heap.size ≤ g := hn g (by simp [bk, Value.ownBlock])
  have hx : Ex [g] wr (wr.setCell ⟨g, (at_ + k) % 64, none⟩ (.int .u8 (b[k].toNat : Int))) := (Ex.refl [g] wr).setCell (.inl (by simp)) _
  refine ⟨?_, h2.ex hx (by simpa using sheets_ne h2 ho), h3, h4.off hx (fun j hj => by simp at hj; subst hj; exact hgw), ?_, h6⟩
  · rw [h1', touched, if_neg (by omega)]
    omega
  · intro i hi2
    obtain ⟨hsi, hoi, hni⟩ := h5 i hi2
    refine ⟨hsi, ?_, hni⟩
    rw [List.take_succ_eq_append_getElem hk, mix_step, hlen2]
    by_cases he : i = (at_ + k) / 64 - at_ / 64
    · subst he
      rw [if_pos (by omega)]
      rw [hva] at hoi ⊢
      have := (hoi.stored ((at_ + k) % 64) (.int .u8 (b[k].toNat : Int))).1
      rw [encB_set] at this
      exact this
    · rw [if_neg (by omega)]
      refine own_ex hoi hx fun j hj hm => ?_
      simp only [List.mem_singleton] at hm
      subst hm
      have hlt : i < (at_ + k) / 64 - at_ / 64 := by omega
      have := List.pairwise_iff_getElem.1 h6 i _ hi2 hin hlt j hj
      rw [hva] at this
      exact this (by simp [bk, Value.ownBlock])

/-- The next sheet, as it was read. -/
theorem Laid.next {w wr w2 w3 : World} {mb f at_ k cc g : Nat} {d : Dv} {b : List UInt8} {vs : List Value} (hl : Laid w wr mb f at_ d b k vs) (hk : k < b.length) (hin : (at_ + k) / 64 - at_ / 64 = vs.length) (hsl : (d.seen (f + at_ / 64 + vs.length)).length = 64) (hx2 : Ex [] wr w2)
    (ho : Own w2 5 1 (.slice (some ⟨g, 0, none⟩) 64 cc) 64 (encB (d.seen (f + at_ / 64 + vs.length)))) (hnew : wr.heap.size ≤ g) (hs : Sheets w3 mb (f + at_ / 64) (vs ++ [.slice (some ⟨g, 0, none⟩) 64 cc])) (hg : w2.grownBy w3 (some mb)) (hmap : Sheets w2 mb (f + at_ / 64) vs) :
    Laid w (w3.setCell ⟨g, (at_ + k) % 64, none⟩ (.int .u8 (b[k].toNat : Int))) mb f at_ d b (k + 1) (vs ++ [.slice (some ⟨g, 0, none⟩) 64 cc]) ∧ Ex [mb] w2 w3 ∧ Own w3 5 1 (.slice (some ⟨g, 0, none⟩) 64 cc) 64 (encB (d.seen (f + at_ / 64 + vs.length))) := by
  obtain ⟨h1, h2, h3, h4, h5, h6⟩ := hl
  have hx3 : Ex [mb] w2 w3 := (Ex.refl [mb] w2).grown hg (fun j hj => .inl (by simp at hj; simp [hj]))
  have hne : mb ≠ g := sheets_ne hmap ho
  have ho3 : Own w3 5 1 (.slice (some ⟨g, 0, none⟩) 64 cc) 64 (encB (d.seen (f + at_ / 64 + vs.length))) := own_ex ho hx3 (fun j hj hm => by simp [bk, Value.ownBlock] at hj; simp at hm; omega)
  refine ⟨?_, hx3, ho3⟩
  have hlen2 : (b.take k).length = k := by rw [List.length_take]; omega
  have htk : b.take (k + 1) = b.take k ++ [b[k]] := List.take_succ_eq_append_getElem hk
  have hgw : w.heap.size ≤ g := Nat.le_trans h4.size hnew
  have hx : Ex [g] w3 (w3.setCell ⟨g, (at_ + k) % 64, none⟩ (.int .u8 (b[k].toNat : Int))) := (Ex.refl [g] w3).setCell (.inl (by simp)) _
  have hold : ∀ i (hi : i < vs.length), ∀ j ∈ bk vs[i], j < wr.heap.size := fun i hi j hj => own_lt (h5 i hi).2.1 j hj
  refine ⟨?_, hs.ex hx (by simpa using hne), h3, ((h4.pure hx2).off hx3 (fun j hj => by simp at hj; subst hj; exact h3)).off hx (fun j hj => by simp at hj; subst hj; exact hgw), ?_, ?_⟩
  · rw [List.length_append, ← hin, touched, if_neg (by omega), show at_ + (k + 1) - 1 = at_ + k from by omega]
    rfl
  · intro i hi
    by_cases he : i = vs.length
    · subst he
      have e : (vs ++ [Value.slice (some ⟨g, 0, none⟩) 64 cc])[vs.length] = .slice (some ⟨g, 0, none⟩) 64 cc := by simp
      rw [e]
      refine ⟨⟨_, _, rfl⟩, ?_, fun j hj => by simp [bk, Value.ownBlock] at hj; omega⟩
      rw [htk, mix_step, hlen2, if_pos (by omega)]
      have hb : mix (d.seen (f + at_ / 64 + vs.length)) (at_ / 64 + vs.length) at_ (b.take k) = d.seen (f + at_ / 64 + vs.length) := by
        rcases Nat.eq_zero_or_pos k with h0 | h0
        · subst h0
          exact mix_nil _ _ _ hsl
        · refine mix_before _ _ _ _ hsl ?_
          rw [hlen2]
          have h1' := h1
          rw [touched, if_neg (by omega)] at h1'
          omega
      rw [hb]
      have := (ho3.stored ((at_ + k) % 64) (.int .u8 (b[k].toNat : Int))).1
      rw [encB_set] at this
      exact this
    · have hi' : i < vs.length := by simp at hi; omega
      rw [List.getElem_append_left hi']
      obtain ⟨hsi, hoi, hni⟩ := h5 i hi'
      refine ⟨hsi, ?_, hni⟩
      rw [htk, mix_step, hlen2, if_neg (by omega)]
      have ho2 := own_ex (own_pure hoi hx2) hx3 (fun j hj hm => by
        obtain ⟨a, c, hv⟩ := hsi
        rw [hv] at hoi hj
        obtain ⟨g', c', e', _⟩ := hoi.form (by decide)
        simp only [Value.slice.injEq, true_and] at e'
        obtain ⟨rfl, rfl⟩ := e'
        have := sheets_ne h2 hoi
        simp [bk, Value.ownBlock] at hj
        simp at hm
        omega)
      exact own_ex ho2 hx (fun j hj hm => by have := hold i hi' j hj; simp at hm; omega)
  · rw [List.pairwise_append]
    refine ⟨h6, List.pairwise_singleton _ _, fun u hu v hv j hj hm => ?_⟩
    simp only [List.mem_singleton] at hv
    subst hv
    obtain ⟨i, hi, rfl⟩ := List.getElem_of_mem hu
    have := hold i hi j hj
    simp [bk, Value.ownBlock] at hm
    omega

theorem Dv.write_kept (d : Dv) (at_ : Int) (b : List UInt8) : (d.write at_ b).2.kept = d.kept := by
  unfold Dv.write
  split
  · rfl
  · split
    · split <;> rfl
    · rfl

/-- The sheets, as they are written. -/
def laySheets (d : Dv) (f at_ : Nat) (b : List UInt8) (n : Nat) : List (List UInt8) := (List.range n).map fun i => mix (d.seen (f + at_ / 64 + i)) (at_ / 64 + i) at_ b

theorem and63 (n : Nat) (h : n ≤ 1000000) : bits BinOp.and IntKind.i64 (n : Int) 63 = ((n % 64 : Nat) : Int) := by
  show IntKind.i64.wrap (((BitVec.ofInt 64 (n : Int) &&& BitVec.ofInt 64 ((63 : Nat) : Int)).toNat : Nat) : Int) = _
  rw [BitVec.ofInt_natCast, BitVec.ofInt_natCast, BitVec.toNat_and, BitVec.toNat_ofNat, BitVec.toNat_ofNat, Nat.mod_eq_of_lt (by omega), Nat.mod_eq_of_lt (by omega)]
  have e : n &&& 63 = n % 64 := Nat.and_two_pow_sub_one_eq_mod n 6
  rw [e]
  exact IntWalk.i64_in _ (by omega)

/-- What write tells, and leaves. -/
def LayTo (w : World) (D : Nat) (F : List Nat) (p : Nat × Dv) (x : Ending) (w' : World) : Prop := x = .returned (.int .i64 p.1) ∧ DevTo w D F p.2 w'

set_option maxRecDepth 100000 in
set_option maxHeartbeats 4000000 in
theorem write_up (w : World) (J D L A Da : Nat) (F : List Nat) (d : Dv) (h : Hd) (f m at_ : Nat) (v : Value) (b : List UInt8) (hj : JnAt w J D h L A Da false) (hd : DevAt w D F d) (hu : d.down = false) (hp : d.pend.length + 10000 ≤ 1000000) (hf : f + m ≤ d.kept.length) (hat : at_ + b.length ≤ m * 64) (hv : RdB w v b) (hJF : J ∉ F) :
    Calls Tryz.prog 51 #[.pointer (some ⟨J, 0, none⟩), .agg #[.int .i64 f, .int .i64 m], .int .i64 at_, v] w (LayTo w D F (d.lay f at_ b)) := by
  have HJ := Lib.hid hj
  have HD := Lib.hid hd
  have HU := Lib.hid hu
  have HV := Lib.hid hv
  have hk8 := hd.1.2.1
  have c12 : w.cell? ⟨J, 12, none⟩ = some (.pointer (some ⟨D, 0, none⟩)) := by rw [cell_of_block hj]; rfl
  have hJlt : J < w.heap.size := lt_of_block hj
  obtain ⟨_, av, cv, rfl, hcv1, hcv2, _, hcv4⟩ := hv
  have HC4 := Lib.hid hcv4
  have hmm := @run_makeMap Tryz.prog
  clear hj hd hu hcv4
  go_enter Tryz.func51, Tryz.ntmps51
  go_wp2_with fail
  go_loopw [22] (fun i wr => ∃ k : Nat, k ≤ b.length ∧ i = .int .i64 k ∧ Hid (∃ vs, Laid w wr (w.heap.size + 1) f at_ d b k vs ∧ wr.heap[w.heap.size]? = some (.cells #[.int .i64 f, .int .i64 m] 82 (0, 0)))) (fun i _ => b.length - (intOf i).toNat)
  case atStart =>
    have hx : Ex [] w (w.alloc (.cells #[.int .i64 f, .int .i64 m] 82)) := (Ex.refl [] w).alloc _
    have hs := sheets_made (w.alloc (.cells #[.int .i64 f, .int .i64 m] 82)) (f + at_ / 64)
    rw [World.size_alloc] at hs
    exact ⟨0, by omega, rfl, [], ⟨by simp [touched], hs, by omega, hx.alloc _, by simp, List.Pairwise.nil⟩, block_alloc (heap_alloc_new w _)⟩
  case round =>
    obtain ⟨k, hk, rfl, hrel⟩ := hrel
    by_cases hlt : k < b.length
    · obtain ⟨bv, bo, rfl, hcb⟩ := HC4.out (by omega)
      obtain ⟨vs, hl, hbf⟩ := hrel.out
      have hcf : wr.cell? ⟨w.heap.size, 0, none⟩ = some (.int .i64 f) := by rw [cell_of_block hbf]; rfl
      have HBF := Lib.hid hbf
      clear hbf
      have x1 : wr.cell? ⟨bv, bo + k, none⟩ = some (.int .u8 (b[k].toNat : Int)) := hl.2.2.2.1.cell (by simp) (hcb k _ (by rw [encB_get, List.getElem?_eq_getElem hlt]; rfl))
      have i0 : (0 : Int) ≤ (k : Int) := Int.natCast_nonneg _
      have i1 : (k : Int) < (b.length : Int) := by omega
      have hlen := hl.1
      have hkn : f + at_ / 64 + vs.length ≤ 1000000 := by
        rw [hlen]
        unfold touched
        split <;> omega
      by_cases hin : (at_ + k) / 64 - at_ / 64 < vs.length
      · have hlook := hl.2.1.look hkn _ hin
        have ek : ((f + at_ / 64 + ((at_ + k) / 64 - at_ / 64) : Nat) : Int) = (f : Int) + ((at_ : Int) + k) / 64 := by omega
        rw [ek] at hlook
        obtain ⟨⟨a1, cc1, hva⟩, hown, hnew⟩ := hl.2.2.2.2.1 _ hin
        obtain ⟨g, gc, hg, _⟩ := hown.form (by decide)
        rw [hva] at hg hown hlook hnew
        simp only [Value.slice.injEq, true_and] at hg
        obtain ⟨rfl, rfl⟩ := hg
        have hand : bits BinOp.and IntKind.i64 ((at_ : Int) + k) 63 = (((at_ + k) % 64 : Nat) : Int) := by have := and63 (at_ + k) (by omega); rw [← this]; congr 1
        have hp64 : (at_ + k) % 64 < 64 := Nat.mod_lt _ (by decide)
        have x2 : ∃ u, wr.cell? ⟨g, (at_ + k) % 64, none⟩ = some u := by
          have := hown.cellAt ((at_ + k) % 64) (by omega)
          rw [this, encB_get, List.getElem?_eq_getElem (by rw [mix_length]; exact hp64)]
          exact ⟨_, rfl⟩
        obtain ⟨ux, x2⟩ := x2
        have x3 := hown.frozenAt ((at_ + k) % 64)
        have q := Lib.run_eql_slice_nil (P := Tryz.prog) wr 37 5 (some ⟨g, 0, none⟩) 64 cc1 0 0 Tryz.underlying37
        have HL := Lib.hid (And.intro hl (And.intro hva (And.intro hown hnew)))
        clear hl hrel hcb hva hown hnew ek
        generalize hpl : (at_ + k) % 64 = pl at *
        go_wp2_with fail
        refine ⟨⟨k + 1, by omega, by go_num, vs, ?_, ?_⟩, by simp [intOf]; omega⟩
        · subst hpl
          exact Laid.step_in HL.out.1 hlt hin HL.out.2.1
        · refine block_other HBF.out ?_
          have := owns_ne HL.out.2.2.1 HBF.out (by decide)
          simpa [Value.ownBlock] using this
      · have hge : (at_ + k) / 64 - at_ / 64 = vs.length := by
          have h1' := hlen
          unfold touched at h1'
          split at h1' <;> omega
        have hmiss := hl.2.1.miss ((f : Int) + ((at_ : Int) + k) / 64) (by omega) (fun i hi e => by omega)
        have q := Lib.run_eql_slice_nil (P := Tryz.prog) wr 37 5 none 0 0 0 0 Tryz.underlying37
        have e12 := hl.2.2.2.1.cell (by simp) c12
        have hand : bits BinOp.and IntKind.i64 ((at_ : Int) + k) 63 = (((at_ + k) % 64 : Nat) : Int) := by have := and63 (at_ + k) (by omega); rw [← this]; congr 1
        have hp64 : (at_ + k) % 64 < 64 := Nat.mod_lt _ (by decide)
        have ek : (f : Int) + ((at_ : Int) + k) / 64 = ((f + at_ / 64 + vs.length : Nat) : Int) := by omega
        have hns : f + at_ / 64 + vs.length < d.kept.length := by omega
        have HL := Lib.hid hl
        have HEK := Lib.hid ek
        clear hl hrel hcb ek
        go_wp2_with fail
        rw [HEK.out]
        refine (Read_up wr D F d (f + at_ / 64 + vs.length) (by omega) (HD.out.pure HL.out.2.2.2.1) HU.out hns).mono ?_
        rintro x w2 ⟨a2, cc2, rfl, ho2, hx2, hf2⟩
        rw [← HEK.out]
        obtain ⟨g, gc, hgq, _⟩ := ho2.form (by decide)
        simp only [Value.slice.injEq, true_and] at hgq
        obtain ⟨rfl, rfl⟩ := hgq
        have hs2 := HL.out.2.1.ex hx2 (by simp)
        obtain ⟨w3, hput, hs3, hg3⟩ := hs2.put hkn (.slice (some ⟨g, 0, none⟩) 64 cc2)
        rw [← HEK.out] at hput
        have hlook3 := hs3.look (by simp; omega) vs.length (by simp)
        rw [← HEK.out] at hlook3
        simp only [List.getElem_concat_length] at hlook3
        have hne3 : w.heap.size + 1 ≠ g := sheets_ne hs2 ho2
        have hnew : wr.heap.size ≤ g := hf2 g (by simp [bk, Value.ownBlock])
        have hsl := Dv.seen_length HD.out.1 hns
        have hnx := Laid.next HL.out hlt hge hsl hx2 ho2 hnew hs3 hg3 hs2
        have x2 : ∃ u, w3.cell? ⟨g, (at_ + k) % 64, none⟩ = some u := by
          have := hnx.2.2.cellAt ((at_ + k) % 64) (by omega)
          rw [this, encB_get, List.getElem?_eq_getElem (by rw [hsl]; exact hp64)]
          exact ⟨_, rfl⟩
        obtain ⟨ux, x2⟩ := x2
        have x3 := hnx.2.2.frozenAt ((at_ + k) % 64)
        have hb3 := (((hx2.obj HBF.out (by simp)) : w2.heap[w.heap.size]? = _))
        have hb3' := hnx.2.1.obj hb3 (by simp)
        have HN := Lib.hid (And.intro hnx.1 (And.intro hnx.2.2 hb3'))
        clear hnx hb3 hb3' hs2 hs3 hg3 ho2 hx2 hf2 hnew hmiss
        generalize hpl : (at_ + k) % 64 = pl at *
        go_wp2_with fail
        refine ⟨⟨k + 1, by omega, by go_num, vs ++ [.slice (some ⟨g, 0, none⟩) 64 cc2], HN.out.1, ?_⟩, by simp [intOf]; omega⟩
        refine block_other HN.out.2.2 ?_
        have := owns_ne HN.out.2.1 HN.out.2.2 (by decide)
        simpa [Value.ownBlock] using this
    · obtain ⟨vs, hl, _⟩ := hrel.out
      obtain rfl : k = b.length := by omega
      obtain ⟨wl, hwl⟩ : ∃ x, x = wr := ⟨wr, rfl⟩
      subst hwl
      have hlen := hl.1
      have hkn : vs.length ≤ 10000 := by
        rw [hlen]
        unfold touched
        split <;> omega
      obtain ⟨D0, ho, hsz, hkeys⟩ := hl.2.1.keys
      have HL := Lib.hid (And.intro hl (And.intro ho hkeys))
      clear hl hrel ho hkeys
      go_wp2_with fail
      refine (Tryz.Keys _ _).mono ?_
      rintro x w2 ⟨rfl, rfl⟩
      go_wp2_with fail
      refine (Tryz.Sorted (w.heap.size + 1) vs.length D0 heldR wl HL.out.2.1 (by unfold maxLen; omega) (by omega)).mono ?_
      rintro x w2 ⟨v2, ss, rfl, hperm, hrow, hnil, hbl⟩
      obtain ⟨hsl, hsort⟩ := HL.out.2.2 ss hperm
      rw [hsort, hsl] at hrow
      have hx2 : Ex [] wl w2 := Ex.of_below hbl
      obtain ⟨_, a2, cc2, rfl, _⟩ := rd_of_owns hrow
      have H2 := Lib.hid (And.intro hrow hx2)
      clear hrow hx2 hnil hbl hsort hsl hperm
      go_wp2_with fail
      have hstart : d.lay f at_ b = d.puts (f + at_ / 64) (laySheets d f at_ b vs.length) := by
        have h1 := HL.out.1.1
        unfold Dv.lay laySheets
        by_cases hb : b = []
        · subst hb
          simp [touched] at h1
          simp [h1, Dv.puts]
        · have hbl : b.length ≠ 0 := fun h => hb (List.eq_nil_of_length_eq_zero h)
          rw [if_neg hb, h1, touched, if_neg hbl]
      have HST := Lib.hid hstart
      clear hstart
      go_loopw [66] (fun s wq => ∃ i : Nat, i ≤ vs.length ∧ s = .int .i64 i ∧ Hid (∃ d' F', d.lay f at_ b = d'.puts (f + at_ / 64 + i) ((laySheets d f at_ b vs.length).drop i) ∧ DevAt wq D F' d' ∧ Sw w2 F F' ∧ Ex F w2 wq ∧ d'.kept.length = d.kept.length ∧ d'.pend.length ≤ d.pend.length + i)) (fun s _ => vs.length - (intOf s).toNat)
      case atStart => exact ⟨0, by omega, rfl, d, F, HST.out, HD.out.pure (HL.out.1.2.2.2.1.pure H2.out.2), Sw.refl _ _, Ex.refl _ _, rfl, by omega⟩
      case round =>
        obtain ⟨i, hi, rfl, hrel⟩ := hrel
        obtain ⟨d', F', hq, hdv, hsw, hxq, hkl, hpl⟩ := hrel.out
        by_cases hlt : i < vs.length
        · obtain ⟨gs, gc, hgs, hglo, _⟩ := H2.out.1.form (by omega)
          simp only [Value.slice.injEq, true_and] at hgs
          obtain ⟨rfl, rfl⟩ := hgs
          have hFlt := HD.out.lt
          have hgsF : gs ∉ F := fun hm => by
            have h1 := hFlt gs hm
            have h2 : wl.heap.size ≤ gs := hglo
            have h3 := HL.out.1.2.2.2.1.size
            omega
          have hrow' := own_ex H2.out.1 hxq (fun j hj hm => by simp [bk, Value.ownBlock] at hj; subst hj; exact hgsF hm)
          have y1 : wr.cell? ⟨gs, i, none⟩ = some (.int .i64 ((f + at_ / 64 + i : Nat) : Int)) := by
            have := hrow'.cellAt (g := gs) i (by omega)
            rw [this]
            simp [List.getElem?_map, List.getElem?_range hlt]
          have j0 : (0 : Int) ≤ (i : Int) := Int.natCast_nonneg _
          have j1 : (i : Int) < (vs.length : Int) := by omega
          have hxJ : Ex F w wr := ((HL.out.1.2.2.2.1.pure H2.out.2).of_nil).trans hxq (Sw.refl _ _)
          have y12 := hxJ.cell (p := ⟨J, 12, none⟩) hJF c12
          have hmb : w.heap.size + 1 ∉ F := fun hm => by have := hFlt _ hm; omega
          have hsh := (HL.out.1.2.1.ex H2.out.2 (by simp)).ex hxq hmb
          have hlook := hsh.look (by have := hi; omega) i hlt
          have HQ := Lib.hid (And.intro hq (And.intro hdv (And.intro hsw (And.intro hxq (And.intro hkl hpl)))))
          have HSH := Lib.hid hsh
          clear hq hdv hsw hxq hkl hpl hrow' hrel hsh
          go_wp2_with fail
          have en : ((f + at_ / 64 + i : Nat) : Int) = (f : Int) + (at_ : Int) / 64 + (i : Int) := by omega
          have HEN := Lib.hid en
          rw [en] at hlook
          have hnat : f + at_ / 64 + i < d.kept.length := by
            have := HL.out.1.1
            unfold touched at this
            split at this <;> omega
          obtain ⟨⟨a9, c9, hv9⟩, ho9, hn9⟩ := HL.out.1.2.2.2.2.1 i hlt
          have hmix := mix_length (d.seen (f + at_ / 64 + i)) (at_ / 64 + i) at_ (b.take b.length)
          rw [hv9] at ho9 hn9 hlook
          have hF9 : ∀ j ∈ bk (.slice a9 64 c9), j ∉ F := fun j hj hm => by have h1 := hn9 j hj; have h2 := hFlt j hm; omega
          have ho9' := own_ex (own_pure ho9 H2.out.2) HQ.out.2.2.2.1 hF9
          have hrd : RdB wr (.slice a9 64 c9) (mix (d.seen (f + at_ / 64 + i)) (at_ / 64 + i) at_ (b.take b.length)) := by
            have := rd_of_owns ho9'
            unfold RdB
            rw [hmix]
            exact this
          have hoff : Off wr (.slice a9 64 c9) F' := fun j hj _ hm => (HQ.out.2.2.1 j hm).elim (hF9 j hj) (fun h => by have := own_lt (own_pure ho9 H2.out.2) j hj; omega)
          have hw2 := Nat.le_trans HL.out.1.2.2.2.1.size H2.out.2.size
          have hJF' : J ∉ F' := fun hm => (HQ.out.2.2.1 J hm).elim hJF (fun h => by omega)
          have hmbl : w.heap.size + 1 < wl.heap.size := HL.out.2.1.lt
          have hmbF' : w.heap.size + 1 ∉ F' := fun hm => (HQ.out.2.2.1 _ hm).elim hmb (fun h => by have := H2.out.2.size; omega)
          have hdrop : (laySheets d f at_ b vs.length).drop i = mix (d.seen (f + at_ / 64 + i)) (at_ / 64 + i) at_ b :: (laySheets d f at_ b vs.length).drop (i + 1) := by
            rw [List.drop_eq_getElem_cons (by simp [laySheets]; omega)]
            simp [laySheets]
          have HDR := Lib.hid hdrop
          rw [List.take_length] at hrd hmix
          have HW := Lib.hid (And.intro hrd hoff)
          clear hdrop hw2 hmbl
          clear ho9 hn9 ho9' hrd hoff en
          go_region_held3 (fun w' => w'.cell? ⟨J, 12, none⟩ = some (.pointer (some ⟨D, 0, none⟩)) ∧ (Instr.lookup 160 (.map (some (w.heap.size + 1))) (.int .i64 ((f : Int) + (at_ : Int) / 64 + (i : Int))) false).run Tryz.prog w' = .ok (.slice a9 64 c9) w') (first | (refine ⟨by simpa using y12, ?_⟩; have := (HSH.out.ex ((Ex.refl [] wr).drew) (by simp)).look (by omega) i hlt; rw [HEN.out, hv9] at this; exact this) | (refine ⟨?_, ?_⟩ <;> assumption))
            (first | (go_at_call 72; rw [← HEN.out]; refine (Write_any wr.drew D F' d' (f + at_ / 64 + i) _ _ (by have := HQ.out.2.2.2.2.2; omega) (HQ.out.2.1.pure ((Ex.refl [] wr).drew)) (by have := HQ.out.2.2.2.2.1; omega) (HW.out.1.pure ((Ex.refl [] wr).drew)) (by omega) (fun j hj hl hm => HW.out.2 j hj hl hm)).mono ?_; rintro x w5 ⟨rfl, F5, hd5, hs5, hx5⟩; have z12 : w5.cell? ⟨J, 12, none⟩ = some (.pointer (some ⟨D, 0, none⟩)) := hx5.cell hJF' y12; have zlk : (Instr.lookup 160 (.map (some (w.heap.size + 1))) (.int .i64 ((f : Int) + (at_ : Int) / 64 + (i : Int))) false).run Tryz.prog w5 = .ok (.slice a9 64 c9) w5 := (by have := (HSH.out.ex (((Ex.refl F' wr).drew).trans hx5 (Sw.refl _ _)) hmbF').look (by omega) i hlt; rw [HEN.out, hv9] at this; exact this)))
          have HE5 := Lib.hid (And.intro hd5 (And.intro hs5 hx5))
          have HP : Hid (d.lay f at_ b = if (d'.write (f + at_ / 64 + i : Nat) (mix (d.seen (f + at_ / 64 + i)) (at_ / 64 + i) at_ b)).1 = 0 then (d'.write (f + at_ / 64 + i : Nat) (mix (d.seen (f + at_ / 64 + i)) (at_ / 64 + i) at_ b)).2.puts (f + at_ / 64 + i + 1) ((laySheets d f at_ b vs.length).drop (i + 1)) else d'.write (f + at_ / 64 + i : Nat) (mix (d.seen (f + at_ / 64 + i)) (at_ / 64 + i) at_ b)) := by
            show _ = _
            rw [HQ.out.1, HDR.out, Dv.puts]
          have hpk := d'.write_pend (f + at_ / 64 + i : Nat) (mix (d.seen (f + at_ / 64 + i)) (at_ / 64 + i) at_ b)
          have hkk := d'.write_kept (f + at_ / 64 + i : Nat) (mix (d.seen (f + at_ / 64 + i)) (at_ / 64 + i) at_ b)
          clear hd5 hs5 hx5 z12 zlk
          rw [HEN.out] at hpk hkk HP HE5
          generalize d'.write ((f : Int) + (at_ : Int) / 64 + (i : Int)) (mix (d.seen (f + at_ / 64 + i)) (at_ / 64 + i) at_ b) = p at *
          have hszw : w.heap.size ≤ w2.heap.size := Nat.le_trans HL.out.1.2.2.2.1.size H2.out.2.size
          by_cases hp0 : p.1 = 0
          · have hp1 : ((p.1 : Int) != 0) = false := by rw [hp0]; rfl
            have HP0 := Lib.hid hp0
            clear hp0
            go_wp2_with fail
            refine ⟨⟨i + 1, by omega, by go_num, p.2, F5, by rw [HP.out, if_pos HP0.out]; rfl, HE5.out.1, HQ.out.2.2.1.trans HE5.out.2.1 HQ.out.2.2.2.1.size, HQ.out.2.2.2.1.trans (((Ex.refl F' wr).drew).trans HE5.out.2.2 (Sw.refl _ _)) HQ.out.2.2.1, by rw [hkk]; exact HQ.out.2.2.2.2.1, by have := HQ.out.2.2.2.2.2; omega⟩, by simp [intOf]; omega⟩
          · have hp1 : ((p.1 : Int) != 0) = true := by simpa using hp0
            have HP0 := Lib.hid hp0
            clear hp0
            go_wp2_with fail
            go_ret
            unfold LayTo
            rw [HP.out, if_neg HP0.out]
            exact ⟨rfl, F5, HE5.out.1, (HQ.out.2.2.1.trans HE5.out.2.1 HQ.out.2.2.2.1.size).mono_size hszw, ((HL.out.1.2.2.2.1.pure H2.out.2).of_nil).trans (HQ.out.2.2.2.1.trans (((Ex.refl F' wr).drew).trans HE5.out.2.2 (Sw.refl _ _)) HQ.out.2.2.1) (Sw.refl _ _)⟩
        · have HQ := Lib.hid (And.intro hq (And.intro hdv (And.intro hsw (And.intro hxq (And.intro hkl hpl)))))
          have hszw : w.heap.size ≤ w2.heap.size := Nat.le_trans HL.out.1.2.2.2.1.size H2.out.2.size
          clear hq hdv hsw hxq hkl hpl hrel
          obtain rfl : i = vs.length := by omega
          go_wp2_with fail
          go_ret
          unfold LayTo
          have hnil : (laySheets d f at_ b vs.length).drop vs.length = [] := by rw [List.drop_eq_nil_iff]; simp [laySheets]
          rw [HQ.out.1, hnil]
          exact ⟨rfl, F', HQ.out.2.1, HQ.out.2.2.1.mono_size hszw, ((HL.out.1.2.2.2.1.pure H2.out.2).of_nil).trans HQ.out.2.2.2.1 (Sw.refl _ _)⟩
end Go.Proofs.YtckmpdplmpgniaaGreat
