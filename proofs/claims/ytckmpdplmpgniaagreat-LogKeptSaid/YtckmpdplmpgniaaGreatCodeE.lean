/- Contracts of package code's cursor: bytes, texts, the end. No condition but sizes. -/
import Derived.Test.YtckmpdplmpgniaaGreatCodeD
namespace Go.Proofs.YtckmpdplmpgniaaGreat
open Go Go.RowKit

/-- A new cursor. -/
def Overed (w : World) (l : List UInt8) (x : Ending) (w' : World) : Prop :=
  ∃ B F, x = .returned (.pointer (some ⟨B, 0, none⟩)) ∧ Cu w' B F l 0 ∧ (∀ k ∈ F, w.heap.size ≤ k) ∧ Ex [] w w' ∧ (∀ k ∈ F, k < w'.heap.size)

set_option maxHeartbeats 400000 in
theorem Over_any (w : World) (l : List UInt8) (v : Value) (hv : RdB w v l) (hl : l.length ≤ 1000000000) :
    Calls Tryz.prog 78 #[v] w (Overed w l) := by
  have HV := Lib.hid hv
  clear hv
  go_enter Tryz.func78, Tryz.ntmps78
  go_wp2_with (go_at_call 89; refine (Clone_any _ l _ HV.out hl).mono ?_; rintro e w1 ⟨a, cap, rfl, ho, hx, hk, _⟩)
  go_ret
  refine ⟨w1.heap.size, _, rfl, ⟨_, rfl, heap_alloc_new _ _, (rd_of_owns ho).pure ((Ex.refl [] w1).alloc _), ?_, hl, by simp, flat_of_owns ho⟩, ?_, hx.alloc _, ?_⟩
  · intro k hk1
    have := own_lt ho k hk1
    omega
  · intro k hk1
    rcases List.mem_cons.1 hk1 with rfl | hk1
    · exact hx.size
    · exact hk k hk1
  · intro k hk1
    rcases List.mem_cons.1 hk1 with rfl | hk1
    · simp
    · have := own_lt ho k hk1
      simp
      omega

/-- The first bytes of a slice. -/
theorem rd_take {w : World} {a : Option Addr} {cap n : Nat} {r : List UInt8} (h : RdB w (.slice a r.length cap) r) (hn : n ≤ r.length) : RdB w (.slice a n cap) (r.take n) := by
  obtain ⟨h1, a', cap', hv, h3, h4, h5, h6⟩ := h
  simp only [Value.slice.injEq, true_and] at hv
  obtain ⟨rfl, rfl⟩ := hv
  have hl : (r.take n).length = n := by rw [List.length_take]; omega
  unfold RdB
  rw [hl]
  refine ⟨by rw [encB_length, hl]; omega, a, cap, rfl, by omega, h4, h5, fun hp => ?_⟩
  obtain ⟨b, o, hb, hc⟩ := h6 (by omega)
  refine ⟨b, o, hb, fun j u hj => hc j u ?_⟩
  rw [encB_get] at hj ⊢
  rw [List.getElem?_take] at hj
  split at hj
  · exact hj
  · simp at hj

/-- What Raw(many) tells, and leaves. -/
def CRaw (w : World) (B : Nat) (F : List Nat) (r : List UInt8) (e : Nat) (many : Int) (x : Ending) (w' : World) : Prop :=
  if e = 0 ∧ 0 ≤ many ∧ many ≤ r.length then
    ∃ a cap, x = .returned (.slice a many.toNat cap) ∧ Own w' 5 1 (.slice a many.toNat cap) many.toNat (encB (r.take many.toNat)) ∧ (∀ k ∈ bk (.slice a many.toNat cap), w.heap.size ≤ k) ∧ CuTo w B F (r.drop many.toNat) 0 w'
  else x = .returned (.slice none 0 0) ∧ CuTo w B F [] (brk e 4) w'

theorem cu_none {w : World} {B : Nat} {F : List Nat} {v : Value} {e : Nat} (hb : w.heap[B]? = some (.cells #[v, .int .i64 e] 189 (0, 0))) (hF : B ∈ F) : CuTo w B F [] e (w.setCell ⟨B, 0, none⟩ (.slice none 0 0)) :=
  ⟨[B], ⟨.slice none 0 0, rfl, by rw [block_setCell hb]; rfl, rd_of_owns (World.ownsRow_nil _ 0 5 1), by simp [bk, Value.ownBlock], by simp, by simp, .inl ⟨_, _, rfl⟩⟩, by simpa using hF, (Ex.refl _ _).setCell (.inl (by simp)) _⟩

theorem CRaw.bad {w : World} {B : Nat} {F : List Nat} {r : List UInt8} {e : Nat} {many : Int} {x : Ending} {w' : World} (h : ¬ (e = 0 ∧ 0 ≤ many ∧ many ≤ r.length)) (hx : x = .returned (.slice none 0 0)) (hc : CuTo w B F [] (brk e 4) w') : CRaw w B F r e many x w' := by
  unfold CRaw
  rw [if_neg h]
  exact ⟨hx, hc⟩

theorem CRaw.good {w : World} {B : Nat} {F : List Nat} {r : List UInt8} {n : Nat} {x : Ending} {w1 w' : World} {a : Option Addr} {cap : Nat} (hn : n ≤ r.length) (hx : x = .returned (.slice a n cap)) (ho : Own w1 5 1 (.slice a n cap) n (encB (r.take n))) (hB : B < w.heap.size) (hx1 : Ex [] w w1) (hk : ∀ k ∈ bk (.slice a n cap), w.heap.size ≤ k) (hc : CuTo w1 B F (r.drop n) 0 w') : CRaw w B F r 0 n x w' := by
  unfold CRaw
  rw [if_pos ⟨rfl, by omega, by omega⟩]
  simp only [Int.toNat_natCast]
  obtain ⟨F', h1, h2, h3⟩ := hc
  refine ⟨a, cap, hx, own_ex ho h3 ?_, hk, F', h1, h2, (hx1.of_nil).trans h3 (Sw.refl _ _)⟩
  intro k hk1 hm
  have := hk k hk1
  simp at hm
  omega

set_option maxRecDepth 100000 in
set_option maxHeartbeats 1000000 in
theorem cRaw_any (w : World) (B : Nat) (F : List Nat) (r : List UInt8) (e : Nat) (many : Int) (hm1 : -9223372036854775808 ≤ many) (hm2 : many ≤ 9223372036854775807) (h : Cu w B F r e) :
    Calls Tryz.prog 108 #[.pointer (some ⟨B, 0, none⟩), .int .i64 many] w (CRaw w B F r e many) := by
  have HC := Lib.hid h
  have hBl := h.blt
  obtain ⟨v, rfl, hb, hr, hn, hl, hz, hf⟩ := h
  have c0 : w.cell? ⟨B, 0, none⟩ = some v := by rw [cell_of_block hb]; rfl
  have c1 : w.cell? ⟨B, 1, none⟩ = some (.int .i64 e) := by rw [cell_of_block hb]; rfl
  have f0 : w.frozen? ⟨B, 0, none⟩ = false := free_of_block hb
  have HB := Lib.hid hb
  have HN := Lib.hid hn
  have HR := Lib.hid hr
  have HZ := Lib.hid hz
  have HF := Lib.hid hf
  obtain ⟨hq1, a, cap, rfl, hc1, hc2, hq2, hc4⟩ := hr
  unfold maxLen at hc2
  clear hb hc4 hn hq1 hz hf
  by_cases he : e = 0
  · subst he
    by_cases hgood : 0 ≤ many ∧ many ≤ r.length
    · obtain ⟨g1, g2⟩ := hgood
      obtain ⟨n, rfl⟩ := Int.eq_ofNat_of_zero_le g1
      have gn : n ≤ r.length := by omega
      have HT := Lib.hid (rd_take HR.out gn)
      have hTL : (r.take n).length = n := by rw [List.length_take]; omega
      rcases HF.out with ⟨n', c', he⟩ | ⟨b, o, n', c', he⟩
      · simp only [Value.slice.injEq] at he
        obtain ⟨rfl, rfl, rfl⟩ := he
        obtain rfl := hq2 rfl
        obtain rfl : r = [] := List.eq_nil_of_length_eq_zero (by omega)
        obtain rfl : n = 0 := by simpa using gn
        clear hq2
        go_enter Tryz.func108, Tryz.ntmps108
        go_wp2_with fail
        have HT' : RdB w (.slice none 0 0) ([] : List UInt8) := HT.out
        refine (Clone_any _ [] _ HT' (by simp)).mono ?_
        rintro x w1 ⟨a', cap', rfl, ho, hx, hk, _⟩
        have hb1 := hx.obj HB.out (by simp)
        have d0 : w1.cell? ⟨B, 0, none⟩ = some (.slice none 0 0) := by rw [cell_of_block hb1]; rfl
        have e0 : w1.frozen? ⟨B, 0, none⟩ = false := free_of_block hb1
        have HB1 := Lib.hid hb1
        have HO := Lib.hid ho
        have HX := Lib.hid hx
        have HK := Lib.hid hk
        clear hb1 ho hx hk
        go_wp2_with fail
        go_ret
        refine CRaw.good (w1 := w1) (by simp) rfl HO.out hBl HX.out HK.out ?_
        exact cu_none HB1.out (by simp)
      · simp only [Value.slice.injEq] at he
        obtain ⟨rfl, rfl, rfl⟩ := he
        clear hq2
        by_cases hcap : cap = n
        all_goals
          (try subst hcap)
          go_enter Tryz.func108, Tryz.ntmps108
          go_wp2_with fail
          refine (Clone_any _ (r.take _) _ HT.out (by omega)).mono ?_
          rintro x w1 ⟨a', cap', rfl, ho, hx, hk, _⟩
          rw [hTL] at ho hk ⊢
          have hb1 := hx.obj HB.out (by simp)
          have d0 : w1.cell? ⟨B, 0, none⟩ = some (.slice (some ⟨b, o, none⟩) r.length cap) := by rw [cell_of_block hb1]; rfl
          have e0 : w1.frozen? ⟨B, 0, none⟩ = false := free_of_block hb1
          have HB1 := Lib.hid hb1
          have HO := Lib.hid ho
          have HX := Lib.hid hx
          have HK := Lib.hid hk
          clear hb1 ho hx hk
          go_wp2_with fail
          go_ret
        · have hcu := cu_rest (cap' := 0) (c := cap) HB1.out HN.out (HR.out.pure HX.out) hl (by simp) (by omega) (.inl ⟨rfl, rfl⟩) (by omega)
          rw [show r.length - cap = 0 from by omega] at hcu
          exact CRaw.good (w1 := w1) gn rfl HO.out hBl HX.out HK.out hcu
        · exact CRaw.good (w1 := w1) gn rfl HO.out hBl HX.out HK.out (cu_rest HB1.out HN.out (HR.out.pure HX.out) hl (by simp) gn (.inr rfl) rfl)
    · have hbad : many < 0 ∨ 0 ≤ many ∧ (r.length : Int) < many := by omega
      have HH : Hid (¬ (0 ≤ many ∧ many ≤ r.length)) := hgood
      clear hgood hq2
      rcases hbad with q | ⟨q1, q2⟩
      · have q3 : (r.length : Int) < IntKind.u64.wrap many := by rw [wrap_u64_neg many q hm1]; omega
        go_enter Tryz.func108, Tryz.ntmps108
        go_wp2_with (go_at_call 107; refine (fail_any _ B _ r 0 4 HC.out).mono ?_; rintro x w' ⟨rfl, hcu⟩)
        go_ret
        exact CRaw.bad (fun h => HH.out h.2) rfl hcu
      · go_enter Tryz.func108, Tryz.ntmps108
        go_wp2_with (go_at_call 107; refine (fail_any _ B _ r 0 4 HC.out).mono ?_; rintro x w' ⟨rfl, hcu⟩)
        go_ret
        exact CRaw.bad (fun h => HH.out h.2) rfl hcu
  · have hb : ((e : Int) != 0) = true := by simp; omega
    have HH : Hid (¬ (e = 0 ∧ 0 ≤ many ∧ many ≤ r.length)) := by
      rintro ⟨h, _⟩
      exact he h
    clear hq2 he
    go_enter Tryz.func108, Tryz.ntmps108
    go_wp2_with (go_at_call 107; refine (fail_any _ B _ r e 4 HC.out).mono ?_; rintro x w' ⟨rfl, hcu⟩)
    go_ret
    exact CRaw.bad HH.out rfl hcu
end Go.Proofs.YtckmpdplmpgniaaGreat
