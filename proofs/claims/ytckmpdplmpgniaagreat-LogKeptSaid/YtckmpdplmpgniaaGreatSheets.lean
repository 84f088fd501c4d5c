/- A map from sectors to slices, of the call's own: plain lemmas. No condition but sizes. -/
import Derived.Test.YtckmpdplmpgniaaGreatSort
import Derived.Maps.OwnOps
import Derived.Maps.OwnSet
import Derived.Maps.Views
namespace Go.Proofs.YtckmpdplmpgniaaGreat
open Go Go.RowKit Go.Maps Go.Shelf

/-- How an element reads: itself. -/
def heldR (v : Value) : Option (DataW Value × List MemPlace) := some (.held v, [])

/-- The key of a number. -/
def keyI (x : Int) : Lit := .int .i64 x

/-- A map of the call's own that holds these slices, at numbers one behind the other from f on. -/
def Sheets (w : World) (b f : Nat) (vs : List Value) : Prop :=
  ∃ D : DataW Value, w.ownsMap Tryz.prog 3 heldR b vs.length D ∧ (∀ i (h : i < vs.length), ∀ z, D.atKey (keyI ((f + i : Nat) : Int)) z = .held vs[i]) ∧ (∀ x : Int, (∀ i < vs.length, x ≠ ((f + i : Nat) : Int)) → (∀ z, D.atKey (keyI x) z = z) ∧ has D (keyI x) = false) ∧ (∀ i < vs.length, has D (keyI ((f + i : Nat) : Int)) = true)

theorem keyI_inj {x y : Int} (h : keyI x = keyI y) : x = y := by simpa [keyI] using h

theorem wf64 {x : Int} (h : -9223372036854775808 ≤ x ∧ x ≤ 9223372036854775807) : (Lit.int .i64 x).wf = true := by
  have e1 : IntKind.i64.min = -9223372036854775808 := by decide
  have e2 : IntKind.i64.max = 9223372036854775807 := by decide
  simp only [Lit.wf, e1, e2, Bool.and_eq_true, decide_eq_true_eq]
  exact h

theorem keyed_int : Keyed Tryz.prog 3 := Maps.int_keyed Tryz.underlying3

theorem keyOf_num {x : Int} (h : -9223372036854775808 ≤ x ∧ x ≤ 9223372036854775807) : keyOf Tryz.prog 3 (.int .i64 x) = some (keyI x) := Maps.keyOf_int_mk Tryz.underlying3 (wf64 h)

theorem zero_ub (w : World) : (zeroValue 37).run Tryz.prog w = .ok (.slice none 0 0) w := by kernel_rfl

/-- A new map. -/
theorem sheets_made (w : World) (f : Nat) : Sheets (w.alloc (.map #[] 0)) w.heap.size f [] := by
  refine ⟨.map [], World.ownsMap_made w _ _ _, ?_, ?_, ?_⟩
  · intro i h; simp at h
  · intro x _; exact ⟨fun z => rfl, rfl⟩
  · intro i h; simp at h

/-- A look-up of one that is there. -/
theorem Sheets.look {w : World} {b f : Nat} {vs : List Value} (h : Sheets w b f vs) (hf : f + vs.length ≤ 1000000) (i : Nat) (hi : i < vs.length) : (Instr.lookup 160 (.map (some b)) (.int .i64 ((f + i : Nat) : Int)) false).run Tryz.prog w = .ok vs[i] w := by
  obtain ⟨D, ho, h1, _, _⟩ := h
  obtain ⟨v, ps, hr, hv⟩ := ho.lookup keyed_int Tryz.underlying160 (zero_ub w) (zd := .held (.slice none 0 0)) (zp := []) rfl (keyOf_num (x := ((f + i : Nat) : Int)) (by omega))
  rw [h1 i hi] at hv
  simp only [heldR, Option.some.injEq, Prod.mk.injEq, DataW.held.injEq] at hv
  rw [hr, hv.1]

/-- A look-up of one that is not. -/
theorem Sheets.miss {w : World} {b f : Nat} {vs : List Value} (h : Sheets w b f vs) (x : Int) (hx : -9223372036854775808 ≤ x ∧ x ≤ 9223372036854775807) (hn : ∀ i < vs.length, x ≠ ((f + i : Nat) : Int)) : (Instr.lookup 160 (.map (some b)) (.int .i64 x) false).run Tryz.prog w = .ok (.slice none 0 0) w := by
  obtain ⟨D, ho, _, h2, _⟩ := h
  obtain ⟨v, ps, hr, hv⟩ := ho.lookup keyed_int Tryz.underlying160 (zero_ub w) (zd := .held (.slice none 0 0)) (zp := []) rfl (keyOf_num hx)
  rw [(h2 x hn).1] at hv
  simp only [heldR, Option.some.injEq, Prod.mk.injEq, DataW.held.injEq] at hv
  rw [hr, hv.1]

/-- A store of the next one. -/
theorem Sheets.put {w : World} {b f : Nat} {vs : List Value} (h : Sheets w b f vs) (hf : f + vs.length ≤ 1000000) (v : Value) : ∃ w', (Instr.mapUpdate 160 (.map (some b)) (.int .i64 ((f + vs.length : Nat) : Int)) v).run Tryz.prog w = .ok () w' ∧ Sheets w' b f (vs ++ [v]) ∧ w.grownBy w' (some b) := by
  obtain ⟨D, ho, h1, h2, h3⟩ := h
  have hk := keyOf_num (x := ((f + vs.length : Nat) : Int)) (by omega)
  obtain ⟨w', hr, ho', hg⟩ := ho.update keyed_int Tryz.underlying160 (by unfold maxLen; omega) hk (val := v) (d := .held v) (ps := []) rfl
  have hm := ho.isMap
  have hkl := keyed_int.key hk
  refine ⟨w', hr, ⟨D.put (keyI ((f + vs.length : Nat) : Int)) (.held v), by rw [List.length_append]; exact ho', ?_, ?_, ?_⟩, hg⟩
  · intro i hi z
    by_cases he : i = vs.length
    · subst he
      rw [atKey_put_same hm hkl]
      simp
    · have hi' : i < vs.length := by simp at hi; omega
      rw [atKey_put_other (fun e => he (by have := keyI_inj e; omega)), h1 i hi', List.getElem_append_left hi']
  · intro x hx
    have hne : x ≠ ((f + vs.length : Nat) : Int) := hx vs.length (by simp)
    rw [has_put_other (fun e => hne (keyI_inj e))]
    refine ⟨fun z => ?_, (h2 x fun i hi => hx i (by simp; omega)).2⟩
    rw [atKey_put_other (fun e => hne (keyI_inj e))]
    exact (h2 x fun i hi => hx i (by simp; omega)).1 z
  · intro i hi
    by_cases he : i = vs.length
    · subst he
      exact has_put_same hm hkl _
    · rw [has_put_other (fun e => he (by have := keyI_inj e; omega))]
      exact h3 i (by simp at hi; omega)

/-- The numbers, sorted. -/
theorem Sheets.keys {w : World} {b f : Nat} {vs : List Value} (h : Sheets w b f vs) : ∃ D : DataW Value, w.ownsMap Tryz.prog 3 heldR b vs.length D ∧ Maps.size D ≤ vs.length ∧ ∀ ss : List Int, ss.Perm (intKeys D) → ss.length = vs.length ∧ ss.mergeSort (fun x y => decide (x ≤ y)) = (List.range vs.length).map fun i => ((f + i : Nat) : Int) := by
  obtain ⟨D, ho, h1, h2, h3⟩ := h
  obtain ⟨es, hes, hp, hk⟩ := ho.entries keyed_int
  refine ⟨D, ho, ho.size_le, fun ss hss => ?_⟩
  subst hes
  have hki : ∀ p ∈ es, ∃ x, p.1 = .int .i64 x := by
    obtain ⟨es', hD', hko⟩ := ho.keysOf
    obtain rfl : es = es' := by simpa using hD'
    intro p hp'
    obtain ⟨v, hv⟩ := hko p hp'
    obtain ⟨x, _, hx, _⟩ := Maps.keyOf_i64 Tryz.underlying3 hv
    exact ⟨x, hx⟩
  have hq : ((List.range vs.length).map fun i => ((f + i : Nat) : Int)).Perm (intKeys (.map es)) := by
    refine perm_intKeys hp hki ?_ ?_
    · refine List.Pairwise.map _ (fun a b (hab : a ≠ b) => by omega) List.nodup_range
    · intro x
      constructor
      · intro hx
        obtain ⟨i, hi, rfl⟩ := List.mem_map.1 hx
        exact h3 i (List.mem_range.1 hi)
      · intro hx
        rw [List.mem_map]
        rcases Classical.em (∃ i, i < vs.length ∧ x = ((f + i : Nat) : Int)) with ⟨i, hi, e⟩ | hn
        · exact ⟨i, List.mem_range.2 hi, e.symm⟩
        · have := (h2 x fun i hi e => hn ⟨i, hi, e⟩).2
          unfold keyI at this
          rw [this] at hx
          cases hx
  have hpp := hss.trans hq.symm
  refine ⟨by simpa using hpp.length_eq, ?_⟩
  have := mergeSort_of_perm_i hpp
  unfold leI at this
  rw [this]
  apply List.mergeSort_of_pairwise
  rw [List.pairwise_map]
  exact List.pairwise_lt_range.imp fun {a b} (hab : a < b) => by simp; omega

theorem Sheets.kept {w w' : World} {b f : Nat} {vs : List Value} {row : Option Nat} (h : Sheets w b f vs) (hg : w.grownBy w' row) (hne : some b ≠ row) : Sheets w' b f vs := by
  obtain ⟨D, ho, r⟩ := h
  exact ⟨D, ho.kept hg hne, r⟩

theorem Sheets.ex {w w' : World} {b f : Nat} {vs : List Value} {F : List Nat} (h : Sheets w b f vs) (hx : Ex F w w') (hF : b ∉ F) : Sheets w' b f vs := by
  obtain ⟨D, ho, r⟩ := h
  obtain ⟨es, clock, hb, q⟩ := ho
  exact ⟨D, ⟨es, clock, hx.obj hb hF, q⟩, r⟩

end Go.Proofs.YtckmpdplmpgniaaGreat
