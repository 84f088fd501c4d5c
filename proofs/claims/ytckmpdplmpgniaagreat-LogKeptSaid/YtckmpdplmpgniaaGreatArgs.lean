/- The law's arguments, opened: a shape, deeds; read again behind a call that turns nothing. No condition: these are lemmas. -/
import Derived.Test.YtckmpdplmpgniaaGreatLawE
import Derived.Test.YtckmpdplmpgniaaGreatRows
import Derived.ProofKit
import Derived.ReadAgain
import Derived.SizedLaws
import Derived.Deep.Slices
import Derived.Deep.Fields
import Derived.Lib.SmallJoins
import Derived.ChangeSame
import Derived.Below
namespace Go.Proofs.YtckmpdplmpgniaaGreat
open Go Go.RowKit Go.ChangeShapes Go.WideShapes Go.Deep Go.Joins

theorem own_knob : ownKnob Tryz.prog.godebug = none := by kernel_rfl
theorem kids_all : Kids Tryz.prog (· < Tryz.prog.types.size) := kids_rows (by kernel_rfl) (by kernel_rfl)
theorem full_all : ∀ t e, t < Tryz.prog.types.size → Tryz.prog.underlying t = some (.slice e) → 0 < Tryz.prog.cellsOf e := slices_full_of Tryz.prog (by kernel_rfl)

section
variable {H : Type} {enc : TypeId × Value → H} {P : Program} {w : World} {base : Nat} {spare : Nat → Bool} {held : Bool}

/-- A slice of structs of one-cell fields, opened at every element, every field. -/
theorem open_slice_fields {t e : TypeId} {fs : Array Field} {fuel : Nat} {cs : List Value} {x : DataW H × List MemPlace} (ht : P.underlying t = some (.slice e)) (he : P.underlying e = some (.struct fs))
    (hone : oneCellFields P fs = true) (hC : P.cellsOf e = fs.size) (h : DataW.trod enc P w base spare held fuel t cs = some x) :
    (cs = [.slice none 0 0] ∧ x = (.nil, [])) ∨
    ∃ (a : Addr) (len cap m : Nat) (D : Nat → DataW H) (Pl : Nat → List MemPlace), cs = [.slice (some a) len cap] ∧ base ≤ a.block ∧ len ≤ cap ∧ cap ≤ maxLen ∧ m = (if spare a.block then cap else len) ∧
      x = (.slice ((List.range len).map D) ((List.range (m - len)).map fun j => D (len + j)), MemPlace.row a (m * fs.size) ++ (List.range m).flatMap Pl) ∧
      ∀ i, i < m → ∃ (ys : List (DataW H × List MemPlace)) (n : Nat), D i = .agg (ys.map (·.1)) ∧ Pl i = ys.flatMap (·.2) ∧ ys.length = fs.size ∧
        ∀ (j : Nat) (f : Field), fs[j]? = some f → ∃ (v : Value) (y : DataW H × List MemPlace), w.cell? (a.add (i * fs.size + j)) = some v ∧ ys[j]? = some y ∧ DataW.trod enc P w base spare held n f.type [v] = some y := by
  rcases open_slice ht h with h0 | ⟨a, len, cap, m, n, D, Pl, hcs, hb, hl, hm, hmm, hx, hi⟩
  · exact .inl h0
  · refine .inr ⟨a, len, cap, m, D, Pl, hcs, hb, hl, hm, hmm, by rw [hC] at hx; exact hx, fun i him => ?_⟩
    obtain ⟨cs', hc, ht'⟩ := hi i him
    rw [hC] at hc
    obtain ⟨ys, n', hn', hy, hlen, hyl, hf⟩ := DataW.trod_struct he ht'
    obtain ⟨_, hcl, hat⟩ := World.cells?_some hc
    simp only [Prod.mk.injEq] at hy
    refine ⟨ys, n', hy.1, hy.2, hyl, fun j f hj => ?_⟩
    obtain ⟨ho, hk⟩ := hone_of hone j f hj
    have hjl : j < fs.size := (Array.getElem?_eq_some_iff.1 hj).1
    have hcell := hat j hjl
    have hv : cs'[j]? = some (cs'[j]'(by omega)) := List.getElem?_eq_getElem (by omega)
    have h1 := hf j f hj
    rw [ho, hk] at h1
    have hone' : (cs'.drop j).take 1 = [cs'[j]'(by omega)] := by
      rw [List.drop_eq_getElem_cons (by omega)]
      rfl
    rw [hone'] at h1
    have hys : ys[j]? = some (ys[j]'(by omega)) := List.getElem?_eq_getElem (by omega)
    refine ⟨_, _, ?_, hys, h1.trans hys⟩
    rw [← Go.Deep.add_add, hcell, hv]
end

theorem list_of_all {α : Type} {Q : Nat → α → Prop} : ∀ n : Nat, (∀ i < n, ∃ x, Q i x) → ∃ l : List α, l.length = n ∧ ∀ (i : Nat) (h : i < l.length), Q i l[i]
  | 0, _ => ⟨[], rfl, fun i h => by simp at h⟩
  | n + 1, h => by
    obtain ⟨l, hl, hq⟩ := list_of_all n fun i hi => h i (by omega)
    obtain ⟨x, hx⟩ := h n (by omega)
    refine ⟨l ++ [x], by simp [hl], fun i hi => ?_⟩
    by_cases hin : i < l.length
    · rw [List.getElem_append_left hin]; exact hq i hin
    · obtain rfl : i = n := by simp at hi; omega
      rw [List.getElem_append_right (by omega)]
      simp only [hl, Nat.sub_self, List.getElem_cons_zero]
      exact hx

theorem addr_plain {w : World} {a : Addr} {v : Value} (h : w.cell? a = some v) : a = ⟨a.block, a.off, none⟩ := by
  obtain ⟨b, o, s⟩ := a
  have : s = none := World.cell?_spot h
  subst this; rfl

theorem add_off (b o i : Nat) : Addr.add ⟨b, o, none⟩ i = ⟨b, o + i, none⟩ := Addr.add_lit _ _ _

/-- Bytes that came in. -/
theorem open_bytes {H : Type} {enc : TypeId × Value → H} {W : World} {fuel : Nat} {v : Value} {y : DataW H × List MemPlace} (h : DataW.trod enc Tryz.prog W 0 (fun _ => true) true fuel 37 [v] = some y) :
    ∃ l : List UInt8, RdB W v l ∧ (0 < l.length → ∀ k ∈ bk v, k < W.heap.size) ∧ (l = [] ∨ ∃ elems spare, y.1 = .slice elems spare ∧ elems.length = l.length) := by
  rcases open_ints Tryz.underlying37 Tryz.underlying5 (by kernel_rfl) h with ⟨hc, hx⟩ | ⟨a, len, cap, zs, hc, _, hl, hm, hz, hx, hcell, hwf⟩
  · simp only [List.cons.injEq, and_true] at hc
    subst hc
    exact ⟨[], ⟨rfl, none, 0, rfl, Nat.le_refl _, by decide, fun _ => rfl, fun h => by simp at h⟩, fun h => by simp at h, .inl rfl⟩
  · simp only [List.cons.injEq, and_true] at hc
    subst hc
    simp only [if_true] at hz
    have hu : ∀ n : Int, (Lit.int .u8 n).wf = true → ((UInt8.ofNat n.toNat).toNat : Int) = n := by
      intro n hn
      have hb : 0 ≤ n ∧ n ≤ 255 := by
        simp [Lit.wf, IntKind.min, IntKind.max, IntKind.signed, IntKind.bits] at hn
        omega
      rw [u8_small _ (by omega)]
      omega
    have hget : ∀ i, i < len → W.cell? (a.add i) = some (.int .u8 ((UInt8.ofNat (zs.getD i 0).toNat).toNat : Int)) := by
      intro i hi
      have hi' : i < zs.length := by omega
      rw [hcell i hi']
      have hmem : zs.getD i 0 ∈ zs := by
        rw [List.getD, List.getElem?_eq_getElem hi']
        exact List.getElem_mem hi'
      rw [hu _ (hwf _ hmem)]
    have hll : ((List.range len).map fun i => UInt8.ofNat (zs.getD i 0).toNat).length = len := by simp
    refine ⟨(List.range len).map fun i => UInt8.ofNat (zs.getD i 0).toNat, ⟨by rw [encB_length, Nat.mul_one], some a, cap, by rw [hll], by rw [hll]; exact hl, hm, by simp, fun hn => ?_⟩, fun hn k hk => ?_, .inr ⟨_, _, by rw [hx], by simp [lits]; omega⟩⟩
    · rw [hll] at hn
      have h0 := hget 0 hn
      have ha : a = ⟨a.block, a.off, none⟩ := by
        have : a.add 0 = a := by simp [Addr.add]
        rw [this] at h0
        exact addr_plain h0
      refine ⟨a.block, a.off, by rw [← ha], fun j u hj => ?_⟩
      rw [encB_get] at hj
      have hjl : j < len := by
        have := (List.getElem?_eq_some_iff.1 (Option.map_eq_some_iff.1 hj).choose_spec.1).1
        simpa using this
      rw [List.getElem?_map, List.getElem?_range hjl] at hj
      simp only [Option.map_some, Option.some.injEq] at hj
      subst hj
      have := hget j hjl
      rw [ha, add_off] at this
      exact this
    · rw [hll] at hn
      have h0 := hget 0 hn
      have h1 := World.block_lt_of_cell? _ _ h0
      have : a.add 0 = a := by simp [Addr.add]
      rw [this] at h1
      simp [bk, Value.ownBlock] at hk
      subst hk
      exact h1

theorem mem_all {H : Type} {P : Program} {e : TypeId} {n : Nat} : ∀ {l : List (DataW H)} {d : DataW H}, d ∈ l → n ∈ d.weights P e → n ∈ DataW.weightsAll P e l
  | x :: r, d, hd, hn => by
    simp only [DataW.weightsAll, List.mem_append]
    rcases List.mem_cons.1 hd with rfl | hd
    · exact .inl hn
    · exact .inr (mem_all hd hn)
  | [], _, hd, _ => by cases hd

/-- Deeds that came in. -/
theorem open_deeds {H : Type} {enc : TypeId × Value → H} {W : World} {fuel : Nat} {v : Value} {y : DataW H × List MemPlace} (h : DataW.trod enc Tryz.prog W 0 (fun _ => true) true fuel 24 [v] = some y)
    (hw : ∀ n ∈ y.1.weights Tryz.prog 24, n ≤ reachBytes) : ∃ ds, Deeds W v ds := by
  rcases open_slice_fields Tryz.underlying24 Tryz.underlying42 (by kernel_rfl) (by kernel_rfl) h with ⟨hc, hx⟩ | ⟨a, len, cap, m, D, Pl, hc, _, hl, hm, hmm, hx, hi⟩
  · simp only [List.cons.injEq, and_true] at hc
    subst hc
    exact ⟨[], ⟨rfl, none, 0, rfl, Nat.le_refl _, by decide, fun _ => rfl, fun h => by simp at h⟩, by simp⟩
  · simp only [List.cons.injEq, and_true] at hc
    subst hc
    simp only [if_true] at hmm
    subst hmm
    have hall : ∀ i < len, ∃ x : DeedP, (W.cell? (a.add (i * 4 + 0)) = some (.int .i64 x.what) ∧ W.cell? (a.add (i * 4 + 1)) = some (.int .i64 x.n) ∧ W.cell? (a.add (i * 4 + 2)) = some (.int .i64 x.bit) ∧ W.cell? (a.add (i * 4 + 3)) = some x.v) ∧ RdB W x.v x.b ∧ (0 < x.b.length → ∀ k ∈ bk x.v, k < W.heap.size) ∧ (-9223372036854775808 ≤ x.what ∧ x.what ≤ 9223372036854775807) ∧ (-9223372036854775808 ≤ x.n ∧ x.n ≤ 9223372036854775807) ∧ x.b.length ≤ 140737488355328 := by
      intro i hil
      obtain ⟨ys, n, hD, _, hyl, hf⟩ := hi i (by omega)
      obtain ⟨v0, y0, c0, g0, t0⟩ := hf 0 _ rfl
      obtain ⟨v1, y1, c1, g1, t1⟩ := hf 1 _ rfl
      obtain ⟨v2, y2, c2, g2, t2⟩ := hf 2 _ rfl
      obtain ⟨v3, y3, c3, g3, t3⟩ := hf 3 _ rfl
      obtain ⟨n0, e0, rfl, w0⟩ := DataW.trod_int Tryz.underlying3 t0
      obtain ⟨n1, e1, rfl, w1⟩ := DataW.trod_int Tryz.underlying3 t1
      obtain ⟨n2, e2, rfl, w2⟩ := DataW.trod_int Tryz.underlying3 t2
      obtain ⟨l, hr, hbl, hsz⟩ := open_bytes t3
      simp only [List.cons.injEq, and_true] at e0 e1 e2
      subst e0 e1 e2
      have rng : ∀ n : Int, (Lit.int .i64 n).wf = true → -9223372036854775808 ≤ n ∧ n ≤ 9223372036854775807 := by
        intro n hn
        simp [Lit.wf, IntKind.min, IntKind.max, IntKind.signed, IntKind.bits] at hn
        omega
      refine ⟨⟨n0, n1, n2, v3, l⟩, ⟨c0, c1, c2, c3⟩, hr, hbl, rng _ w0, rng _ w1, ?_⟩
      rcases hsz with rfl | ⟨elems, spare, hy3, hel⟩
      · simp
      · have hin : (elems.length + spare.length) * Tryz.prog.bytesOf 5 ∈ y.1.weights Tryz.prog 24 := by
          rw [hx]
          simp only [DataW.weights, Tryz.underlying24]
          refine List.mem_cons_of_mem _ (List.mem_append_left _ ?_)
          refine mem_all (d := D i) (List.mem_map.2 ⟨i, List.mem_range.2 hil, rfl⟩) ?_
          rw [hD]
          simp only [DataW.weights, Tryz.underlying42]
          refine DataW.weights_mem_each (j := 3) rfl (by rw [List.getElem?_map, g3]; rfl) _ ?_
          show _ ∈ DataW.weights Tryz.prog 37 y3.1
          rw [hy3]
          simp only [DataW.weights, Tryz.underlying37]
          exact List.mem_cons_self
        have h1 := hw _ hin
        have h2 : Tryz.prog.bytesOf 5 = 1 := by kernel_rfl
        rw [h2, Nat.mul_one] at h1
        have h3 : reachBytes < 2 ^ 47 := reachBytes_lt
        show l.length ≤ 140737488355328
        rw [← hel]
        omega
    obtain ⟨ds, hdl, hds⟩ := list_of_all len hall
    subst hdl
    refine ⟨ds, ⟨?_, some a, _, rfl, hl, hm, by simp, fun hn => ?_⟩, fun x hx => ?_⟩
    · rw [flatMap_len encD 4 ds fun _ _ => rfl]
    · have h0 := (hds 0 hn).1.1
      have ha : a = ⟨a.block, a.off, none⟩ := by
        have : a.add (0 * 4 + 0) = a := by simp [Addr.add]
        rw [this] at h0
        exact addr_plain h0
      refine ⟨a.block, a.off, by rw [← ha], fun j u hj => ?_⟩
      have hjl : j < ds.length * 4 := by
        have := (List.getElem?_eq_some_iff.1 hj).1
        rw [flatMap_len encD 4 ds fun _ _ => rfl] at this
        exact this
      have hk : j / 4 < ds.length := by omega
      have hp := flatMap_piece encD 4 ds (fun _ _ => rfl) (j / 4) hk (j % 4) (Nat.mod_lt _ (by decide))
      rw [show j / 4 * 4 + j % 4 = j from by omega] at hp
      rw [hp] at hj
      have hq := (hds (j / 4) hk).1
      rw [ha] at hq
      simp only [add_off] at hq
      have h4 : j % 4 = 0 ∨ j % 4 = 1 ∨ j % 4 = 2 ∨ j % 4 = 3 := by omega
      have hjj : j = j / 4 * 4 + j % 4 := by omega
      rw [hjj]
      rcases h4 with h4 | h4 | h4 | h4
      · rw [h4] at hj ⊢
        cases hj
        exact hq.1
      · rw [h4] at hj ⊢
        cases hj
        exact hq.2.1
      · rw [h4] at hj ⊢
        cases hj
        exact hq.2.2.1
      · rw [h4] at hj ⊢
        cases hj
        exact hq.2.2.2
    · obtain ⟨i, hi', rfl⟩ := List.mem_iff_getElem.1 hx
      exact (hds i hi').2

/-- Behind a call that turns nothing that was there the arguments read as they did. -/
theorem same_place {W W' : World} (h : Ex [] W W') {p : MemPlace} (hp : p.block < W.heap.size) : W.sameAt W' p := by
  have hb := h.block p.block hp (by simp)
  cases p <;> simp_all [World.sameAt, World.cell?, World.frozen?, MemPlace.block]

theorem all_carry {H : Type} {enc : TypeId × Value → H} {P : Program} {W W' : World} {base : Nat} {sp : Nat → Bool} {held : Bool} : ∀ {ts : List TypeId} {vs : List Value} {ds : List (DataW H)} {ps : List MemPlace},
    DataW.TrodAll enc P W base sp held ts vs ds ps → (∀ p ∈ ps, W.sameAt W' p) → DataW.TrodAll enc P W' base sp held ts vs ds ps
  | [], [], [], _, h, _ => h
  | _ :: _, _ :: _, _ :: _, _, ⟨p, q, ⟨n, h1⟩, h2, e⟩, hs => ⟨p, q, ⟨n, DataW.trod_carry n _ _ _ h1 fun x hx => hs x (by rw [e]; exact List.mem_append_left _ hx)⟩, all_carry h2 fun x hx => hs x (by rw [e]; exact List.mem_append_right _ hx), e⟩

section
variable {H : Type} {enc : TypeId × Value → H} {P : Program}
theorem post_of_below {f : Func} {s : ChangeSpec} {apart fresh handsOn again : Bool} {W W' : World} {args : Array Value} {v : Value} {ds gs : List (DataW H)} {before pa pv : List MemPlace}
    (hW : DataW.Whole enc P f.params.toList s.vars apart W args.toList ds gs before)
    (hres : ∀ (b : Nat) (sp : Nat → Bool) (hd : Bool), DataW.TrodAll enc P W' b sp hd f.resultTypes.toList (v.resultList f.resultTypes.size) (s.fn H (ds ++ gs)).results [])
    (hargs : ∀ sp : Nat → Bool, (∀ p ∈ before, sp p.block = true) → DataW.TrodAll enc P W' 0 sp true f.params.toList args.toList (s.fn H (ds ++ gs)).args pa)
    (hvars : ∀ sp : Nat → Bool, (∀ p ∈ before, sp p.block = true) → DataW.TrodVars enc P W' sp s.vars (s.fn H (ds ++ gs)).vars pv)
    (hps : before = pa ++ pv) (hb : Below W.heap.size W W')
    (hok : ∀ (j : Nat) (t : TypeId) (r : Value), f.resultTypes[j]? = some t → (v.resultList f.resultTypes.size)[j]? = some r → Value.okWide P W' .any 0 t r) :
    s.post enc P f apart fresh handsOn again W args v W' := by
  have hlt : ∀ p ∈ before, p.block < W.heap.size := fun p hp => hW.lt p hp
  have hold : ∀ p ∈ before, (fun b => decide (b < W.heap.size)) p.block = true := fun p hp => by simpa using hlt p hp
  refine ⟨ds, gs, before, [], pa, pv, hW, hres _ _ _, hargs _ hold, hvars _ hold, World.keptBut_mono (fun p hp => ⟨hp, ?_⟩) (hb.frame (· ∈ before)), fun _ => ?_⟩
  · rw [hps, List.mem_append] at hp
    exact Or.inr hp
  · obtain ⟨_, _, _, _, _, hz, hn⟩ := hW
    refine ⟨hok, _, _, ([] ++ pa) ++ pv, ⟨[] ++ pa, pv, trodAll_append (hargs _ (fun _ _ => rfl)) (hres _ _ _), hvars _ (fun _ _ => rfl), rfl, ?_, ?_⟩, ?_⟩
    · intro b off hp
      have hin : MemPlace.cell b off ∈ before := by rw [hps]; simpa using hp
      rw [hb.frozen (hlt _ hin)]
      exact hz b off hin
    · intro ha
      have := hn ha
      rw [hps] at this
      simpa using this
    · intro p hp _
      rw [hps]
      simpa using hp
end
end Go.Proofs.YtckmpdplmpgniaaGreat
