/- Memory: rows of pieces, stores of whole pieces; plain lemmas over any world. -/
import Derived.Test.YtckmpdplmpgniaaGreatMem
import Derived.Deep.MidRow
namespace Go.Proofs.YtckmpdplmpgniaaGreat
open Go Go.RowKit

/-- Where the k-th element of a list of equal pieces lies in all of them. -/
theorem flatMap_piece {α : Type} (f : α → List Value) (m : Nat) (l : List α) (h : ∀ x ∈ l, (f x).length = m) (k : Nat) (hk : k < l.length) (j : Nat) (hj : j < m) : (l.flatMap f)[k * m + j]? = (f l[k])[j]? := by
  induction l generalizing k with
  | nil => simp at hk
  | cons x l ih =>
    rw [List.flatMap_cons]
    have hx := h x (by simp)
    cases k with
    | zero =>
      rw [List.getElem?_append_left (by rw [hx]; omega)]
      simp
    | succ k =>
      rw [List.getElem?_append_right (by rw [hx, Nat.succ_mul]; omega)]
      rw [hx, show (k + 1) * m + j - m = k * m + j from by rw [Nat.succ_mul]; omega]
      exact ih (fun y hy => h y (by simp [hy])) k (by simpa using hk)

theorem flatMap_len {α : Type} (f : α → List Value) (m : Nat) (l : List α) (h : ∀ x ∈ l, (f x).length = m) : (l.flatMap f).length = l.length * m := by
  induction l with
  | nil => simp
  | cons x l ih => rw [List.flatMap_cons, List.length_append, h x (by simp), ih fun y hy => h y (by simp [hy]), List.length_cons, Nat.succ_mul, Nat.add_comm]

/-- Cells laid over others. -/
def over : List Value → Nat → List Value → List Value
  | xs, _, [] => xs
  | xs, o, v :: vs => over (xs.set o v) (o + 1) vs

theorem over_length (xs : List Value) (o : Nat) (vs : List Value) : (over xs o vs).length = xs.length := by
  induction vs generalizing xs o with
  | nil => rfl
  | cons v vs ih => rw [over, ih]; simp

theorem over_get (xs : List Value) (o : Nat) (vs : List Value) (h : o + vs.length ≤ xs.length) (i : Nat) : (over xs o vs)[i]? = if o ≤ i ∧ i < o + vs.length then vs[i - o]? else xs[i]? := by
  induction vs generalizing xs o with
  | nil => rw [over, if_neg (by simp)]
  | cons v vs ih =>
    rw [over, ih _ _ (by simp at h ⊢; omega)]
    simp only [List.length_cons] at h ⊢
    by_cases h1 : o + 1 ≤ i ∧ i < o + 1 + vs.length
    · rw [if_pos h1, if_pos (by omega), show i - o = (i - (o + 1)) + 1 from by omega, List.getElem?_cons_succ]
    · rw [if_neg h1]
      by_cases h2 : i = o
      · subst h2
        rw [if_pos (by omega), Nat.sub_self, List.getElem?_cons_zero, List.getElem?_set_self (by omega)]
      · rw [if_neg (by omega), List.getElem?_set_ne (by omega)]

theorem over_piece {α : Type} (f : α → List Value) (m : Nat) (l : List α) (h : ∀ x ∈ l, (f x).length = m) (k : Nat) (hk : k < l.length) (y : α) (hy : (f y).length = m) : over (l.flatMap f) (k * m) (f y) = (l.set k y).flatMap f := by
  have hl := flatMap_len f m l h
  have hs : ∀ x ∈ l.set k y, (f x).length = m := by
    intro x hx
    rcases List.mem_or_eq_of_mem_set hx with hx | rfl
    · exact h x hx
    · exact hy
  have hl2 := flatMap_len f m (l.set k y) hs
  rw [List.length_set] at hl2
  have hkm : k * m + m ≤ l.length * m := by rw [← Nat.succ_mul]; exact Nat.mul_le_mul_right m hk
  apply List.ext_getElem?
  intro i
  by_cases hi : i < l.length * m
  · have hm : 0 < m := by
      rcases Nat.eq_zero_or_pos m with rfl | h0
      · simp at hi
      · exact h0
    have hq : i / m < l.length := Nat.div_lt_of_lt_mul (by rw [Nat.mul_comm]; exact hi)
    have hr : i % m < m := Nat.mod_lt _ hm
    have e : i = i / m * m + i % m := by rw [Nat.mul_comm]; exact (Nat.div_add_mod i m).symm
    rw [over_get _ _ _ (by rw [hl, hy]; exact hkm), hy]
    have h2 := flatMap_piece f m (l.set k y) hs (i / m) (by simpa using hq) (i % m) hr
    rw [← e] at h2
    rw [h2]
    by_cases hqk : i / m = k
    · subst hqk
      rw [if_pos (by omega)]
      simp only [List.getElem_set_self]
      congr 1
      omega
    · rw [if_neg (by
        rintro ⟨h3, h4⟩
        apply hqk
        apply Nat.div_eq_of_lt_le h3
        rw [Nat.succ_mul]; exact h4)]
      have h3 := flatMap_piece f m l h (i / m) hq (i % m) hr
      rw [← e] at h3
      rw [h3]
      congr 2
      rw [List.getElem_set_ne (fun h => hqk h.symm)]
  · rw [List.getElem?_eq_none (by rw [over_length, hl]; omega), List.getElem?_eq_none (by rw [hl2]; omega)]

theorem over_all (xs vs : List Value) (h : vs.length = xs.length) : over xs 0 vs = vs := by
  apply List.ext_getElem?
  intro i
  rw [over_get _ _ _ (by omega)]
  by_cases hi : i < vs.length
  · rw [if_pos (by omega), Nat.sub_zero]
  · rw [if_neg (by omega), List.getElem?_eq_none (by omega), List.getElem?_eq_none (by omega)]

/-- Many cells stored into a row. -/
theorem own_setCells {w : World} {e : TypeId} {size g n cap : Nat} {xs : List Value} (vs : List Value) (o : Nat) (h : Own w e size (.slice (some ⟨g, 0, none⟩) n cap) n xs) :
    Own (w.setCells g o vs) e size (.slice (some ⟨g, 0, none⟩) n cap) n (over xs o vs) ∧ Ex [g] w (w.setCells g o vs) := by
  induction vs generalizing w xs o with
  | nil => exact ⟨h, Ex.refl _ _⟩
  | cons v vs ih =>
    have h1 := (h.stored o v).1
    have h2 := ih (o + 1) h1
    exact ⟨h2.1, ((Ex.refl [g] w).setCell (p := ⟨g, o, none⟩) (.inl (by simp)) v).trans h2.2 (Sw.refl _ _)⟩

/-- A block that is known whole, behind a store of all its cells. -/
theorem ex_setCells {w : World} {g o : Nat} (vs : List Value) : Ex [g] w (w.setCells g o vs) := by
  induction vs generalizing w o with
  | nil => exact Ex.refl _ _
  | cons v vs ih => exact ((Ex.refl [g] w).setCell (p := ⟨g, o, none⟩) (.inl (by simp)) v).trans ih (Sw.refl _ _)

theorem own_there {w : World} {e : TypeId} {size g n cap : Nat} {xs : List Value} (h : Own w e size (.slice (some ⟨g, 0, none⟩) n cap) n xs) (o m : Nat) (hm : o + m ≤ n * size) : w.there g o m := by
  intro j hj
  refine ⟨?_, h.frozenAt _⟩
  rw [h.cellAt _ (by omega)]
  rw [List.getElem?_eq_getElem (by rw [h.1]; omega)]
  rfl

theorem own_range {w : World} {e : TypeId} {size g n cap : Nat} {xs : List Value} (h : Own w e size (.slice (some ⟨g, 0, none⟩) n cap) n xs) (o : Nat) (cs : List Value) (hc : ∀ j u, cs[j]? = some u → xs[o + j]? = some u) : w.rangeAt g o cs := by
  intro j v hv
  have := hc j v hv
  have hlt := (List.getElem?_eq_some_iff.1 this).1
  rw [h.1] at hlt
  rw [h.cellAt _ hlt]
  exact this

end Go.Proofs.YtckmpdplmpgniaaGreat
