/- Memory: how slices read and what a call leaves as it was; plain lemmas over any world. No condition: these are lemmas. -/
import Derived.WalkKit
import Derived.Deep.Draws
import Derived.Deep.AppendLies
namespace Go.Proofs.YtckmpdplmpgniaaGreat
open Go Go.RowKit

/-! ### Frames: which blocks may have turned. -/

/-- All blocks but those of a list are as they were; new ones may have come. -/
structure Ex (F : List Nat) (w w' : World) : Prop where
  os : w'.os = w.os
  tape : w'.tape = w.tape
  output : w'.output = w.output
  size : w.heap.size ≤ w'.heap.size
  block : ∀ k, k < w.heap.size → k ∉ F → w'.heap[k]? = w.heap[k]?

/-- The blocks of a second list are those of the first, or came later. -/
def Sw (w : World) (F F' : List Nat) : Prop := ∀ k ∈ F', k ∈ F ∨ w.heap.size ≤ k

theorem Sw.refl (w : World) (F : List Nat) : Sw w F F := fun _ h => .inl h
theorem Sw.trans {w w1 : World} {F F1 F2 : List Nat} (h : Sw w F F1) (h1 : Sw w1 F1 F2) (hs : w.heap.size ≤ w1.heap.size) : Sw w F F2 := fun k hk => (h1 k hk).elim (fun h' => h k h') fun h' => .inr (Nat.le_trans hs h')

theorem Ex.refl (F : List Nat) (w : World) : Ex F w w := ⟨rfl, rfl, rfl, Nat.le_refl _, fun _ _ _ => rfl⟩

theorem Ex.trans {F F1 : List Nat} {a b c : World} (h : Ex F a b) (k : Ex F1 b c) (hs : Sw a F F1) : Ex F a c :=
  ⟨k.os.trans h.os, k.tape.trans h.tape, k.output.trans h.output, Nat.le_trans h.size k.size, fun i hi hx =>
    (k.block i (Nat.lt_of_lt_of_le hi h.size) (fun hm => (hs i hm).elim hx fun h' => by omega)).trans (h.block i hi hx)⟩

/-- Two steps of one object. -/
theorem Ex.next {F F1 : List Nat} {a b c : World} (h : Ex F a b) (hs : Sw a F F1) (k : Ex F1 b c) : Ex F a c := h.trans k hs

/-- What turns only blocks that came later, or none, turns none. -/
theorem Ex.off {F : List Nat} {a b c : World} (h : Ex [] a b) (k : Ex F b c) (hs : ∀ i ∈ F, a.heap.size ≤ i) : Ex [] a c := h.trans k fun i hi => .inr (hs i hi)

theorem Ex.pure {F : List Nat} {a b c : World} (h : Ex F a b) (k : Ex [] b c) : Ex F a c := h.trans k fun _ hi => by cases hi

theorem Ex.weaken {F F' : List Nat} {a b : World} (h : Ex F a b) (hs : ∀ i ∈ F, i ∈ F') : Ex F' a b :=
  ⟨h.os, h.tape, h.output, h.size, fun k hk hx => h.block k hk fun hm => hx (hs k hm)⟩

theorem Ex.of_nil {F : List Nat} {a b : World} (h : Ex [] a b) : Ex F a b := h.weaken fun _ hi => by cases hi

theorem Ex.below {w w' : World} (h : Ex [] w w') : Below w.heap.size w w' := ⟨h.os, h.tape, h.output, h.size, fun k hk => h.block k hk (by simp)⟩
theorem Ex.of_below {w w' : World} (h : Below w.heap.size w w') : Ex [] w w' := ⟨h.os, h.tape, h.output, h.size, fun k hk _ => h.block k hk⟩

theorem Ex.alloc {F : List Nat} {a w : World} (h : Ex F a w) (o : Obj) : Ex F a (w.alloc o) :=
  h.pure ⟨rfl, rfl, rfl, by simp, fun k hk _ => Below.heap_alloc _ _ _ hk⟩

theorem Ex.drew {F : List Nat} {a w : World} (h : Ex F a w) : Ex F a w.drew := ⟨h.os, h.tape, h.output, h.size, h.block⟩
theorem Ex.drewN {F : List Nat} {a w : World} (h : Ex F a w) (n : Nat) : Ex F a (w.drewN n) := ⟨h.os, h.tape, h.output, h.size, h.block⟩

theorem Ex.setCell {F : List Nat} {a w : World} (h : Ex F a w) {p : Addr} (hp : p.block ∈ F ∨ a.heap.size ≤ p.block) (u : Value) : Ex F a (w.setCell p u) :=
  h.trans (F1 := [p.block]) ⟨rfl, rfl, rfl, by simp [World.setCell], fun k _ hx => Below.heap_setCell _ _ _ _ (fun hk => hx (by simp [hk]))⟩ fun k hk => by
    simp at hk; subst hk; exact hp

theorem Ex.grown {F : List Nat} {a w w' : World} {row : Option Nat} (h : Ex F a w) (hg : w.grownBy w' row) (hr : ∀ k, row = some k → k ∈ F ∨ a.heap.size ≤ k) : Ex F a w' :=
  h.trans (F1 := row.toList) ⟨hg.os, hg.tape, hg.output, hg.size, fun k hk hx => hg.block k hk (fun e => hx (by simp [← e]))⟩ fun k hk => hr k (by simpa using hk)

theorem Ex.cell {F : List Nat} {w w' : World} (h : Ex F w w') {p : Addr} {v : Value} (hp : p.block ∉ F) (hc : w.cell? p = some v) : w'.cell? p = some v := by
  rw [← hc]
  exact World.cell?_of_block (h.block _ (World.block_lt_of_cell? _ _ hc) hp)

theorem Ex.obj {F : List Nat} {w w' : World} (h : Ex F w w') {k : Nat} {x : Obj} (hk : w.heap[k]? = some x) (hF : k ∉ F) : w'.heap[k]? = some x := (h.block k (lt_of_block hk) hF).trans hk

theorem below_drewN {B : Nat} {a w : World} (h : Below B a w) (n : Nat) : Below B a (w.drewN n) := ⟨h.os, h.tape, h.output, h.size, h.block⟩

/-! ### Blocks -/

/-- A block that is known whole: its cells, that they may be written, the block behind a store. -/
theorem cell_of_block {w : World} {b j : Nat} {cur : Array Value} {t : TypeId} (h : w.heap[b]? = some (.cells cur t (0, 0))) : w.cell? ⟨b, j, none⟩ = cur[j]? := by simp [World.cell?, h]
theorem free_of_block {w : World} {b j : Nat} {cur : Array Value} {t : TypeId} (h : w.heap[b]? = some (.cells cur t (0, 0))) : w.frozen? ⟨b, j, none⟩ = false := by simp [World.frozen?, h]
theorem block_setCell {w : World} {b j : Nat} {u : Value} {cur : Array Value} {t : TypeId} (h : w.heap[b]? = some (.cells cur t (0, 0))) : (w.setCell ⟨b, j, none⟩ u).heap[b]? = some (.cells (cur.setIfInBounds j u) t (0, 0)) := heap_setCell_same w b j cur t u h
theorem block_alloc {w : World} {b : Nat} {o x : Obj} (h : w.heap[b]? = some x) : (w.alloc o).heap[b]? = some x := (Below.heap_alloc w o b (lt_of_block h)).trans h
theorem block_other {w : World} {b : Nat} {p : Addr} {u : Value} {x : Obj} (h : w.heap[b]? = some x) (hne : b ≠ p.block) : (w.setCell p u).heap[b]? = some x := (Below.heap_setCell w p u b hne).trans h
theorem block_grown {w w' : World} {row : Option Nat} {B : Nat} {x : Obj} (hb : w.heap[B]? = some x) (hg : w.grownBy w' row) (hne : some B ≠ row) : w'.heap[B]? = some x := (hg.block B (lt_of_block hb) hne).trans hb

/-! ### Slices -/

/-- The block to which a slice leads. -/
def bk (v : Value) : List Nat := v.ownBlock.toList

/-- A slice that reads as n elements of so many cells: an address is asked only where there is room. -/
def Rd (w : World) (size : Nat) (v : Value) (n : Nat) (xs : List Value) : Prop :=
  xs.length = n * size ∧ ∃ a cap, v = .slice a n cap ∧ n ≤ cap ∧ cap ≤ maxLen ∧ (a = none → cap = 0) ∧ (0 < n → ∃ b o, a = some ⟨b, o, none⟩ ∧ ∀ j u, xs[j]? = some u → w.cell? ⟨b, o + j, none⟩ = some u)

/-- A slice leads to none of these blocks (as far as there are such). -/
def Off (w : World) (v : Value) (F : List Nat) : Prop := ∀ k ∈ bk v, k < w.heap.size → k ∉ F

theorem Off.nil (w : World) (v : Value) : Off w v [] := fun _ _ _ => by simp
theorem Off.sw {w : World} {v : Value} {F F1 : List Nat} (h : Off w v F) (hs : Sw w F F1) : Off w v F1 := fun k hk hl hm => (hs k hm).elim (h k hk hl) fun h' => by omega
/-- What came later is none of it. -/
theorem Off.late {w : World} {v : Value} {F : List Nat} (h : ∀ k ∈ F, w.heap.size ≤ k) : Off w v F := fun k _ hl hm => by have := h k hm; omega

theorem Rd.ex {w w' : World} {F : List Nat} {size n : Nat} {v : Value} {xs : List Value} (h : Rd w size v n xs) (hb : Ex F w w') (hF : Off w v F) : Rd w' size v n xs := by
  obtain ⟨h1, a, cap, rfl, h3, h4, h5, h6⟩ := h
  refine ⟨h1, a, cap, rfl, h3, h4, h5, fun hn => ?_⟩
  obtain ⟨b, o, rfl, hc⟩ := h6 hn
  refine ⟨b, o, rfl, fun j u hj => ?_⟩
  have := hc j u hj
  exact hb.cell (hF b (by simp [bk, Value.ownBlock]) (World.block_lt_of_cell? w ⟨b, o + j, none⟩ this)) this

theorem Rd.pure {w w' : World} {size n : Nat} {v : Value} {xs : List Value} (h : Rd w size v n xs) (hb : Ex [] w w') : Rd w' size v n xs := h.ex hb (Off.nil _ _)

/-- Where there is an element: the block is there. -/
theorem Rd.lt {w : World} {size n : Nat} {v : Value} {xs : List Value} (h : Rd w size v n xs) (hs : 0 < size) (hn : 0 < n) : ∀ k ∈ bk v, k < w.heap.size := by
  obtain ⟨h1, a, cap, rfl, h3, h4, h5, h6⟩ := h
  obtain ⟨b, o, rfl, hc⟩ := h6 hn
  intro k hk
  simp [bk, Value.ownBlock] at hk
  subst hk
  have hpos : 0 < xs.length := by rw [h1]; exact Nat.mul_pos hn hs
  exact World.block_lt_of_cell? w ⟨k, o + 0, none⟩ (hc 0 _ (List.getElem?_eq_getElem hpos))

theorem Rd.at {w : World} {size n cap : Nat} {a : Option Addr} {xs : List Value} (h : Rd w size (.slice a n cap) n xs) (hn : 0 < n) : ∃ b o, a = some ⟨b, o, none⟩ ∧ ∀ j u, xs[j]? = some u → w.cell? ⟨b, o + j, none⟩ = some u := by
  obtain ⟨_, a', cap', hv, _, _, _, h6⟩ := h
  simp only [Value.slice.injEq, true_and] at hv
  obtain ⟨rfl, rfl⟩ := hv
  exact h6 hn

/-- What a call owns can be read. -/
theorem rd_of_owns {w : World} {base size n : Nat} {e : TypeId} {v : Value} {xs : List Value} (h : w.ownsRow base e size v n xs) : Rd w size v n xs := by
  refine ⟨h.1, ?_⟩
  rcases h.2 with ⟨rfl, rfl⟩ | ⟨g, cap, cur, rfl, _, hg, hn, hm, hs, ht⟩
  · exact ⟨none, 0, rfl, Nat.le_refl _, by simp, fun _ => rfl, fun h => by omega⟩
  · refine ⟨_, cap, rfl, hn, hm, fun h => by simp at h, fun _ => ⟨g, 0, rfl, fun j u hj => ?_⟩⟩
    have := h.cells (g := g) rfl j u hj
    simpa [Addr.add_lit] using this

/-- A slice that leads nowhere, or to a cell of a block. -/
def Flat (v : Value) : Prop := (∃ n c, v = .slice none n c) ∨ ∃ b o n c, v = .slice (some ⟨b, o, none⟩) n c

theorem flat_of_owns {w : World} {base size n : Nat} {e : TypeId} {v : Value} {xs : List Value} (h : w.ownsRow base e size v n xs) : Flat v := by
  rcases h.2 with ⟨rfl, rfl⟩ | ⟨g, cap, cur, rfl, _⟩
  · exact .inl ⟨_, _, rfl⟩
  · exact .inr ⟨_, _, _, _, rfl⟩

/-- A row of the call's own: whatever base. -/
abbrev Own (w : World) (e : TypeId) (size : Nat) (v : Value) (n : Nat) (xs : List Value) : Prop := w.ownsRow 0 e size v n xs

theorem owns_zero {w : World} {base size : Nat} {e : TypeId} {v : Value} {n : Nat} {xs : List Value} (h : w.ownsRow base e size v n xs) : Own w e size v n xs := by
  refine ⟨h.1, ?_⟩
  rcases h.2 with h2 | ⟨g, cap, cur, hv, hg, r⟩
  · exact .inl h2
  · exact .inr ⟨g, cap, cur, hv, Nat.zero_le _, r⟩

theorem own_ex {w w' : World} {F : List Nat} {base size : Nat} {e : TypeId} {v : Value} {n : Nat} {xs : List Value} (h : w.ownsRow base e size v n xs) (hb : Ex F w w') (hF : ∀ k ∈ bk v, k ∉ F) : w'.ownsRow base e size v n xs := by
  refine ⟨h.1, ?_⟩
  rcases h.2 with h2 | ⟨g, cap, cur, hv, hg, hh, r⟩
  · exact .inl h2
  · exact .inr ⟨g, cap, cur, hv, hg, hb.obj hh (hF g (by simp [bk, hv, Value.ownBlock])), r⟩

theorem own_pure {w w' : World} {base size : Nat} {e : TypeId} {v : Value} {n : Nat} {xs : List Value} (h : w.ownsRow base e size v n xs) (hb : Ex [] w w') : w'.ownsRow base e size v n xs := own_ex h hb fun _ _ => by simp

theorem own_lt {w : World} {base size : Nat} {e : TypeId} {v : Value} {n : Nat} {xs : List Value} (h : w.ownsRow base e size v n xs) : ∀ k ∈ bk v, k < w.heap.size := fun k hk => (h.lt k (by simpa [bk] using hk)).2

/-- A row lies in a block of its own type: so not in one of another type. -/
theorem owns_ne {w : World} {base size : Nat} {e t : TypeId} {v : Value} {n B : Nat} {xs : List Value} {cur : Array Value} {f : Nat × Nat} (h : w.ownsRow base e size v n xs) (hb : w.heap[B]? = some (.cells cur t f)) (ht : t ≠ e) : some B ≠ v.ownBlock := by
  rcases h.2 with ⟨rfl, _⟩ | ⟨g, cap, c, rfl, _, hg, _⟩
  · simp [Value.ownBlock]
  · simp only [Value.ownBlock, ne_eq, Option.some.injEq]
    rintro rfl
    rw [hb] at hg
    simp at hg
    exact ht hg.2.1

/-- A store of a row's new value into the cell that holds it: the block, and the row, behind it. -/
theorem store_row {w : World} {B n size : Nat} {e T : TypeId} {v : Value} {cs : Array Value} {xs : List Value} {j : Nat} (hb : w.heap[B]? = some (.cells cs T (0, 0))) (hown : Own w e size v n xs) (ht : T ≠ e) :
    (w.setCell ⟨B, j, none⟩ v).heap[B]? = some (.cells (cs.setIfInBounds j v) T (0, 0)) ∧ Own (w.setCell ⟨B, j, none⟩ v) e size v n xs :=
  ⟨block_setCell hb, ownsRow_setCell_other hown (Ne.symm (owns_ne hown hb ht)) _⟩

/-! ### append -/

theorem Rd.cells {w : World} {size n c : Nat} {a : Addr} {xs : List Value} (h : Rd w size (.slice (some a) n c) n xs) (hs : 0 < n) : ∀ j u, xs[j]? = some u → w.cell? (a.add j) = some u := by
  obtain ⟨h1, a', cap, hv, h3, h4, h5, h6⟩ := h
  simp only [Value.slice.injEq, true_and] at hv
  obtain ⟨rfl, rfl⟩ := hv
  obtain ⟨b, o, hb, hc⟩ := h6 hs
  obtain rfl := Option.some.inj hb
  intro j u hj
  rw [Addr.add_lit]
  exact hc j u hj

/-- append onto a row of the call's own, of whatever slice can be read. -/
theorem run_app {P : Program} (w : World) {t e ty : TypeId} {z : Value} {size bytes : Nat} (ht : P.underlying t = some (.slice e)) (hinfo : (P.info? e).map (fun i => (i.zero, i.size, i.bytes)) = some (some z, size, bytes)) (hzs : z.cells.size = size) (hsz : 0 < size)
    {v : Value} {n : Nat} {xs : List Value} (hown : Own w e size v n xs) {y : Value} {m : Nat} {news : List Value} (hy : Rd w size y m news) (h1 : ∀ u ∈ news, u.oneCell' = true)
    (h63 : n + m ≤ maxLen) (hbytes : (n + m) * bytes ≤ 140737488355328) :
    ∃ a' cap' w', (Builtin.append_ #[t, t] ty #[v, y]).run P w = .ok (.slice a' (n + m) cap') w' ∧ Own w' e size (.slice a' (n + m) cap') (n + m) (xs ++ news) ∧ w.grownBy w' v.ownBlock ∧ (∀ k ∈ bk (.slice a' (n + m) cap'), k ∈ bk v ∨ k = w.heap.size) ∧ (a' = none ↔ v = .slice none 0 0 ∧ m = 0) := by
  obtain ⟨i, hi, hz0, hz1, hz2⟩ := info_parts hinfo
  obtain ⟨hl, a, cap, rfl, hc1, hc2, hc3, hc4⟩ := hy
  cases a with
  | none =>
    obtain rfl := hc3 rfl
    obtain rfl : m = 0 := by omega
    obtain rfl : news = [] := List.eq_nil_of_length_eq_zero (by simpa using hl)
    have hr := run_append_owned_none (P := P) w 0 t ty e i size ht hi v n xs hown
    rcases hown.2 with ⟨rfl, rfl⟩ | ⟨g, cap, cur, rfl, r⟩
    · exact ⟨none, 0, w, hr, by simpa using hown, World.grownBy.refl _ _, fun k hk => .inl hk, by simp⟩
    · exact ⟨_, cap, w, hr, by simpa using hown, World.grownBy.refl _ _, fun k hk => .inl (by simpa [bk, Value.ownBlock] using hk), by simp⟩
  | some ad =>
    have hnews : ∀ j u, news[j]? = some u → w.cell? (ad.add j) = some u := by
      intro j u hj
      have hm : 0 < m := by
        rcases Nat.eq_zero_or_pos m with h0 | h0
        · subst h0
          obtain rfl : news = [] := List.eq_nil_of_length_eq_zero (by simpa using hl)
          simp at hj
        · exact h0
      exact Rd.cells (n := m) (c := cap) ⟨hl, _, cap, rfl, hc1, hc2, hc3, hc4⟩ hm j u hj
    obtain ⟨v', w', hr, h2, h3, h4, h5⟩ := run_append_own_at (P := P) w 0 t ty e i z size bytes ht hi hz0 hz1 hz2 hzs hsz v n xs hown ad m cap news hl hnews h1 h63 hbytes (Nat.zero_le _)
    rcases h2.2 with ⟨rfl, h0⟩ | ⟨g, cap', cur, rfl, r⟩
    · rw [h0] at h2 ⊢
      exact ⟨none, 0, w', hr, h2, h3, fun k hk => by simp [bk, Value.ownBlock] at hk, by simpa using h4⟩
    · refine ⟨_, cap', w', hr, h2, h3, fun k hk => ?_, by simpa using h4⟩
      rcases h5 with h5 | h5
      · exact .inl (by rw [bk, ← h5]; exact hk)
      · right
        rw [bk, h5] at hk
        simpa using hk

theorem wpList_app {P : Program} (w : World) {ops : Array Oper} {rest : List Oper} {o : Oper} {a : Act} {Q : Exit → Act → World → Prop} (hgd : o.guard = none) (s x : Operand) (t : TypeId)
    (ho : o.op = .call { callee := .builtin .append, args := #[s, x], argTypes := #[t, t] })
    {e : TypeId} {z : Value} {size bytes : Nat} (ht : P.underlying t = some (.slice e)) (hinfo : (P.info? e).map (fun i => (i.zero, i.size, i.bytes)) = some (some z, size, bytes)) (hzs : z.cells.size = size) (hsz : 0 < size)
    (v : Value) (n : Nat) (xs : List Value) (hs : a.eval s = v) (hown : Own w e size v n xs) (y : Value) (m : Nat) (news : List Value) (hx : a.eval x = y) (hy : Rd w size y m news) (h1 : ∀ u ∈ news, u.oneCell' = true)
    (h63 : n + m ≤ maxLen) (hbytes : (n + m) * bytes ≤ 140737488355328)
    (h : ∀ a' cap' w', Own w' e size (.slice a' (n + m) cap') (n + m) (xs ++ news) → w.grownBy w' v.ownBlock → (∀ k ∈ bk (.slice a' (n + m) cap'), k ∈ bk v ∨ k = w.heap.size) → (a' = none ↔ v = .slice none 0 0 ∧ m = 0) → wpList P ops Q rest (a.put o.dst (.slice a' (n + m) cap')) w') : wpList P ops Q (o :: rest) a w := by
  refine wpList_plain hgd fun K hK => ?_
  obtain ⟨a', cap', w', hr, h2, h3, h4, h5⟩ := run_app (P := P) w (ty := o.type) ht hinfo hzs hsz hown hy h1 h63 hbytes
  unfold Oper.wp execOp
  simp only [ho, resolve, invoke, builtin, Sem.run_bind, Sem.run_pure, Result.andThen_ok, List.map_toArray, List.map_cons, List.map_nil, hs, hx, hr]
  exact hK _ _ (h a' cap' w' h2 h3 h4 h5)

/-- A slice literal: a new block. -/
theorem rd_new (w : World) (cs : Array Value) (t : TypeId) (size n : Nat) (hs : cs.size = n * size) (hm : n ≤ maxLen) : Rd (w.alloc (.cells cs t)) size (.slice (some ⟨w.heap.size, 0, none⟩) n n) n cs.toList := by
  refine ⟨by simpa using hs, _, n, rfl, Nat.le_refl _, hm, fun h => by simp at h, fun _ => ⟨_, _, rfl, fun j u hj => ?_⟩⟩
  rw [cell_of_row _ w.heap.size (0 + j) cs t (0, 0) (heap_alloc_new w _)]
  simpa using hj

theorem own_new (w : World) (cs : Array Value) (t : TypeId) (size n : Nat) (hs : cs.size = n * size) (hm : n ≤ maxLen) : Own (w.alloc (.cells cs t)) t size (.slice (some ⟨w.heap.size, 0, none⟩) n n) n cs.toList := World.ownsRow_lit w cs n (Nat.zero_le _) hm hs

/-! ### Bytes -/

/-- The cells of bytes. -/
def encB (l : List UInt8) : List Value := l.map fun x => Value.int .u8 (x.toNat : Int)

theorem encB_length (l : List UInt8) : (encB l).length = l.length := by simp [encB]
theorem encB_append (a b : List UInt8) : encB (a ++ b) = encB a ++ encB b := by simp [encB]
theorem encB_one (x : UInt8) : encB [x] = [Value.int .u8 (x.toNat : Int)] := rfl
theorem encB_get (l : List UInt8) (j : Nat) : (encB l)[j]? = (l[j]?).map fun x => Value.int .u8 (x.toNat : Int) := by simp [encB]
theorem encB_oneCell (l : List UInt8) : ∀ u ∈ encB l, u.oneCell' = true := by
  intro u hu
  obtain ⟨x, _, rfl⟩ := List.mem_map.1 hu
  rfl

theorem u8_small (m : Nat) (h : m < 256) : (UInt8.ofNat m).toNat = m := by
  simp only [UInt8.toNat_ofNat']
  omega

/-- The bits of a byte, by trial. -/
theorem bits_or128 (m : Nat) : bits BinOp.or IntKind.u8 ((m : Int) % 256) 128 = ((UInt8.ofNat (m % 128 + 128)).toNat : Int) := by
  have h : ∀ x : Fin 256, bits BinOp.or IntKind.u8 ((x.1 : Nat) : Int) 128 = ((UInt8.ofNat (x.1 % 128 + 128)).toNat : Int) := by decide +kernel
  have := h ⟨m % 256, Nat.mod_lt _ (by decide)⟩
  simp only at this
  rw [show m % 256 % 128 = m % 128 from by omega] at this
  rw [← this]
  congr 1

/-- A slice of bytes that reads as a list. -/
abbrev RdB (w : World) (v : Value) (l : List UInt8) : Prop := Rd w 1 v l.length (encB l)

end Go.Proofs.YtckmpdplmpgniaaGreat
