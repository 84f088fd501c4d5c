/- Regions that draw their order: a condition on the world that is asked of the operations ahead of one of them alone. Plain laws over any program. -/
import Derived.Deep.RegionHeld3
namespace Go.Proofs.YtckmpdplmpgniaaGreat
open Go

section
variable {P : Program} {ops : Array Oper} {Q : Exit → Act → World → Prop} {md : Region.Mode} {T : World → Prop} {c : Nat}

/-- What has come up waited for nothing that has not. -/
def Closed (md : Region.Mode) (ops : Array Oper) (listed : Array Bool) : Prop := ∀ k o, listed.getD k false = true → ops[k]? = some o → ∀ e ∈ o.after, Region.binds md e = true → listed.getD e.on false = true

/-- Does number k wait for number i? -/
def waits (md : Region.Mode) (ops : Array Oper) (k i : Nat) : Bool := ((ops[k]?).map fun o => o.after.any fun e => Region.binds md e && e.on == i).getD false

/-- Number c waits, through others, for all ahead of it; what stands behind it waits for it. -/
def lastOf (md : Region.Mode) (ops : Array Oper) (c : Nat) : Bool :=
  ((List.range c).all fun i => (List.range (c + 1)).any fun k => decide (i < k) && waits md ops k i) && (List.range ops.size).all fun j => decide (j ≤ c) || waits md ops j c

theorem Closed.set {listed : Array Bool} {i : Nat} (h : Closed md ops listed) (hr : i ∈ Region.ready md ops listed) : Closed md ops (listed.setIfInBounds i true) := by
  intro k o hk ho e he hb
  by_cases hik : i = k
  · subst hik
    obtain ⟨_, o', ho', hall⟩ := mem_ready.1 hr
    rw [ho] at ho'
    cases ho'
    exact getD_set_true (hall e he hb)
  · rw [getD_set_ne false hik] at hk
    exact getD_set_true (h k o hk ho e he hb)

theorem waits_spec {k i : Nat} (h : waits md ops k i = true) : ∃ o, ops[k]? = some o ∧ ∃ e ∈ o.after, Region.binds md e = true ∧ e.on = i := by
  unfold waits at h
  cases ho : ops[k]? with
  | none => rw [ho] at h; simp at h
  | some o =>
    rw [ho] at h
    simp only [Option.map_some, Option.getD_some] at h
    obtain ⟨e, he, hb⟩ := Array.any_eq_true'.1 h
    rw [Bool.and_eq_true, beq_iff_eq] at hb
    exact ⟨o, rfl, e, he, hb.1, hb.2⟩

theorem last_all {listed : Array Bool} {j : Nat} (hl : lastOf md ops c = true) (h : Closed md ops listed) (hr : j ∈ Region.ready md ops listed) (hj : c ≤ j) : ∀ i < c, listed.getD i false = true := by
  unfold lastOf at hl
  rw [Bool.and_eq_true, List.all_eq_true, List.all_eq_true] at hl
  obtain ⟨h1, h2⟩ := hl
  obtain ⟨hun, oj, hoj, hall⟩ := mem_ready.1 hr
  have hjs : j < ops.size := (Array.getElem?_eq_some_iff.1 hoj).1
  have main : ∀ m i, c - i ≤ m → i < c → listed.getD i false = true := by
    intro m
    induction m with
    | zero => intro i h0 hi; omega
    | succ m ih =>
      intro i hm hi
      have hk := h1 i (List.mem_range.2 hi)
      rw [List.any_eq_true] at hk
      obtain ⟨k, hkr, hk⟩ := hk
      rw [Bool.and_eq_true] at hk
      obtain ⟨hlt, hw⟩ := hk
      have hlt' : i < k := of_decide_eq_true hlt
      have hkc : k < c + 1 := List.mem_range.1 hkr
      obtain ⟨o, ho, e, he, hb, rfl⟩ := waits_spec hw
      by_cases hkc' : k = c
      · subst hkc'
        by_cases hjk : j = k
        · subst hjk
          rw [hoj] at ho
          cases ho
          exact hall e he hb
        · have hw2 := h2 j (List.mem_range.2 hjs)
          rw [Bool.or_eq_true] at hw2
          rcases hw2 with hw2 | hw2
          · have := of_decide_eq_true hw2; omega
          · obtain ⟨o2, ho2, e2, he2, hb2, he3⟩ := waits_spec hw2
            rw [hoj] at ho2
            cases ho2
            have hck := hall e2 he2 hb2
            rw [he3] at hck
            exact h k o hck ho e he hb
      · exact h k o (ih k (by omega) (by omega)) ho e he hb
  exact fun i hi => main (c - i) i (Nat.le_refl _) hi

/-- Whatever order is picked from here on: behind each operation ahead of number c T holds. -/
def wpP (P : Program) (md : Region.Mode) (ops : Array Oper) (Q : Exit → Act → World → Prop) (c : Nat) (T : World → Prop) : Nat → Array Bool → Act → World → Prop
  | 0, listed, a, w => Region.ready md ops listed = [] ∧ Q .normal a w
  | n + 1, listed, a, w => (Region.ready md ops listed = [] → Q .normal a w) ∧ ∀ i ∈ Region.ready md ops listed, wpOp P ops Q i (fun a' w' => (i < c → T w') ∧ wpP P md ops Q c T n (listed.setIfInBounds i true) a' w') a w

/-- .. if what has come up waited for nothing that has not. -/
def wpL (P : Program) (md : Region.Mode) (ops : Array Oper) (Q : Exit → Act → World → Prop) (c : Nat) (T : World → Prop) (n : Nat) (listed : Array Bool) (a : Act) (w : World) : Prop := Closed md ops listed → wpP P md ops Q c T n listed a w

theorem wpAny_of_wpP (n : Nat) (listed : Array Bool) (a : Act) (w : World) (h : wpP P md ops Q c T n listed a w) : wpAny P md ops Q n listed a w := by
  induction n generalizing listed a w with
  | zero => exact h
  | succ n ih => exact ⟨h.1, fun i hi => wpOp_mono (fun a' w' k => ih _ a' w' k.2) (h.2 i hi)⟩

/-- What yields its value wherever T holds, and stands ahead of number c, may be taken first. -/
theorem wpP_first {i : Nat} {oi : Oper} {v : Value} (hi : ops[i]? = some oi) (hsel : ∀ (j : Nat) (o : Oper) cs b, ops[j]? = some o → o.op ≠ .select cs b)
    (hQ : ∀ c a w, Q (.panic c) (a.put oi.dst v) w → Q (.panic c) a w) (hl : lastOf md ops c = true) (hic : i < c)
    (n : Nat) (listed : Array Bool) (a : Act) (w : World)
    (hfree : ∀ j oj, ops[j]? = some oj → j ≠ i → listed.getD j true = false → (∀ e ∈ oj.after, Region.binds md e = true → e.on ≠ i) → oi.apart ops oj = true)
    (hcl : Closed md ops listed) (hr : i ∈ Region.ready md ops listed) (hy : YieldsIf P ops T oi v a) (hw : T w)
    (h : wpP P md ops Q c T n (listed.setIfInBounds i true) (a.put oi.dst v) w) : wpP P md ops Q c T (n + 1) listed a w := by
  have hpi := (mem_ready.1 hr).1
  induction n generalizing listed a w with
  | zero =>
    refine ⟨fun e => absurd hr (by rw [e]; simp), fun j hj => ?_⟩
    by_cases hji : j = i
    · subst hji
      exact hy.wpOp hi hw ⟨fun _ => hw, h⟩
    · have hm := ready_mono (i := i) hj hji
      rw [h.1] at hm
      cases hm
  | succ n ih =>
    refine ⟨fun e => absurd hr (by rw [e]; simp), fun j hj => ?_⟩
    by_cases hji : j = i
    · subst hji
      exact hy.wpOp hi hw ⟨fun _ => hw, h⟩
    · obtain ⟨hjun, oj, hoj, hall⟩ := mem_ready.1 hj
      have hpi' : listed.getD i false = false := by
        rcases Nat.lt_or_ge i listed.size with hlt | hge
        · simpa [hlt] using hpi
        · simp [Array.getElem?_eq_none hge]
      have hjc : j < c := by
        rcases Nat.lt_or_ge j c with h' | h'
        · exact h'
        · have := last_all hl hcl hj h' i hic
          rw [hpi'] at this
          cases this
      have hnot : ∀ e ∈ oj.after, Region.binds md e = true → e.on ≠ i := by
        intro e he hb heq
        have h1 := hall e he hb
        rw [heq, hpi'] at h1
        cases h1
      have hstep := wpOp_putIf hoj (hfree j oj hoj hji hjun hnot) (fun cs b => hsel i oi cs b hi) (fun cs b => hsel j oj cs b hoj) hQ hy (h.2 j (ready_mono (i := i) hj hji))
      refine wpOp_mono (fun a' w' hk => ?_) hstep
      obtain ⟨hy', hT', hrest⟩ := hk
      rw [Array.setIfInBounds_comm _ _ (Ne.symm hji)] at hrest
      refine ⟨hT', ih (listed.setIfInBounds j true) a' w' ?_ (hcl.set hj) (ready_mono hr (Ne.symm hji)) hy' (hT' hjc) hrest (by rw [getD_set_ne true hji]; exact hpi)⟩
      intro k ok hk hki hun hno
      refine hfree k ok hk hki ?_ hno
      by_cases hjk : j = k
      · subst hjk; exact hjun
      · rw [getD_set_ne true hjk] at hun; exact hun

theorem wpL_take {i : Nat} {oi : Oper} {v : Value} {n : Nat} {listed : Array Bool} {a : Act} {w : World} (hi : ops[i]? = some oi) (hl : lastOf md ops c = true) (hs : Region.noSelect ops = true)
    (hf : Region.free md ops listed i = true) (hr : (Region.ready md ops listed).contains i = true) (hic : decide (i < c) = true)
    (hQ : ∀ c a w, Q (.panic c) (a.put oi.dst v) w → Q (.panic c) a w) (hy : YieldsIf P ops T oi v a) (hw : T w)
    (h : wpL P md ops Q c T n (listed.setIfInBounds i true) (a.put oi.dst v) w) : wpL P md ops Q c T (n + 1) listed a w := fun hc =>
  have hr' : i ∈ Region.ready md ops listed := by simpa using hr
  wpP_first hi (Region.noSelect_spec hs) hQ hl (of_decide_eq_true hic) n listed a w (Region.free_spec hi hf) hc hr' hy hw (h (hc.set hr'))

/-- Each of these comes up next. -/
def AllNext (P : Program) (md : Region.Mode) (ops : Array Oper) (Q : Exit → Act → World → Prop) (c : Nat) (T : World → Prop) (n : Nat) (listed : Array Bool) (a : Act) (w : World) (rs : List Nat) : Prop :=
  ∀ i ∈ rs, wpOp P ops Q i (fun a' w' => (i < c → T w') ∧ wpL P md ops Q c T n (listed.setIfInBounds i true) a' w') a w

theorem AllNext.nil {n : Nat} {listed : Array Bool} {a : Act} {w : World} : AllNext P md ops Q c T n listed a w [] := fun _ h => by cases h
theorem AllNext.cons {n : Nat} {listed : Array Bool} {a : Act} {w : World} {i : Nat} {o : Oper} {rs : List Nat} (ho : ops[i]? = some o)
    (h : ∀ K' : Act → World → Prop, Shut (∀ a w, (i < c → T w) → wpL P md ops Q c T n (listed.setIfInBounds i true) a w → K' a w) → if Region.wanted o (yielded ops a.tmps) = true then Oper.wp P o a w K' Q else K' (a.put o.dst undef) w)
    (hs : AllNext P md ops Q c T n listed a w rs) : AllNext P md ops Q c T n listed a w (i :: rs) := fun j hj => by
  rcases List.mem_cons.1 hj with rfl | hj
  · exact wpOp_step ho (fun K' hK => h K' (fun a w hS hW => hK a w ⟨hS, hW⟩))
  · exact hs j hj

theorem wpL_ready {rs : List Nat} {n : Nat} {listed : Array Bool} {a : Act} {w : World} (hr : Region.ready md ops listed = rs) (hne : rs ≠ [])
    (h : AllNext P md ops Q c T n listed a w rs) : wpL P md ops Q c T (n + 1) listed a w := fun hc =>
  ⟨fun e => absurd (hr ▸ e) hne, fun i hi => wpOp_mono (fun _ _ k => ⟨k.1, k.2 (hc.set hi)⟩) (h i (hr ▸ hi))⟩

theorem wpL_done {listed : Array Bool} {a : Act} {w : World} (hr : Region.ready md ops listed = []) (h : Q .normal a w) (n : Nat) : wpL P md ops Q c T n listed a w := fun _ => by
  cases n with
  | zero => exact ⟨hr, h⟩
  | succ n => exact ⟨fun _ => h, by rw [hr]; simp⟩

theorem closed_none (n : Nat) : Closed md ops (Array.replicate n false) := by
  intro k o hk
  rw [Array.getD_eq_getD_getElem?, Array.getElem?_replicate] at hk
  split at hk <;> simp at hk

/-- The beginning. -/
theorem wp_region_L {id : Nat} {a : Act} {w : World} (c : Nat) (T : World → Prop) (hm : P.follows .mixedOrders = true) (h : wpL P .any ops Q c T ops.size (Array.replicate ops.size false) a w.drew) : (Code.region id ops true).wp P Q a w :=
  wp_region_any hm (wpAny_of_wpP _ _ _ _ (h (closed_none _)))
end
end Go.Proofs.YtckmpdplmpgniaaGreat
