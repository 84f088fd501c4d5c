/- The law's arguments: deeds; whether they are great. No condition but ranges. -/
import Derived.Test.YtckmpdplmpgniaaGreatLawD
namespace Go.Proofs.YtckmpdplmpgniaaGreat
open Go Go.RowKit

/-- A deed. -/
structure DeedP where
  what : Int
  n : Int
  bit : Int
  v : Value
  b : List UInt8

def encD (x : DeedP) : List Value := [.int .i64 x.what, .int .i64 x.n, .int .i64 x.bit, x.v]

/-- A slice that reads as deeds. -/
def Deeds (w : World) (lv : Value) (ds : List DeedP) : Prop :=
  Rd w 4 lv ds.length (ds.flatMap encD) ∧ ∀ x ∈ ds, RdB w x.v x.b ∧ (0 < x.b.length → ∀ k ∈ bk x.v, k < w.heap.size) ∧ (-9223372036854775808 ≤ x.what ∧ x.what ≤ 9223372036854775807) ∧ (-9223372036854775808 ≤ x.n ∧ x.n ≤ 9223372036854775807) ∧ x.b.length ≤ 140737488355328

theorem Deeds.pure {w w' : World} {lv : Value} {ds : List DeedP} (h : Deeds w lv ds) (hx : Ex [] w w') : Deeds w' lv ds :=
  ⟨h.1.pure hx, fun x hm => ⟨(h.2 x hm).1.pure hx, fun hp k hk => Nat.lt_of_lt_of_le ((h.2 x hm).2.1 hp k hk) hx.size, (h.2 x hm).2.2⟩⟩

theorem Deeds.at {w : World} {a : Option Addr} {cap : Nat} {ds : List DeedP} (h : Deeds w (.slice a ds.length cap) ds) (k : Nat) (hk : k < ds.length) :
    ∃ b o, a = some ⟨b, o, none⟩ ∧ w.cell? ⟨b, o + k * 4, none⟩ = some (.int .i64 ds[k].what) ∧ w.cell? ⟨b, o + k * 4 + 1, none⟩ = some (.int .i64 ds[k].n) ∧ w.cell? ⟨b, o + k * 4 + 1 + 1, none⟩ = some (.int .i64 ds[k].bit) ∧ w.cell? ⟨b, o + k * 4 + 1 + 1 + 1, none⟩ = some ds[k].v := by
  obtain ⟨b, o, rfl, hc⟩ := h.1.at (by omega)
  have hp : ∀ j u, j < 4 → (encD ds[k])[j]? = some u → w.cell? ⟨b, o + (k * 4 + j), none⟩ = some u := fun j u hj hu => by
    refine hc (k * 4 + j) u ?_
    rw [flatMap_piece encD 4 ds (fun _ _ => rfl) k hk j hj]
    exact hu
  exact ⟨b, o, rfl, hp 0 _ (by decide) rfl, hp 1 _ (by decide) rfl, hp 2 _ (by decide) rfl, hp 3 _ (by decide) rfl⟩

/-- Some truth, and nothing else. -/
def SameBool (w : World) (x : Ending) (w' : World) : Prop := (∃ b : Bool, x = .returned (.bool b)) ∧ w = w'

theorem rWithin_any (w : World) (n : Int) : Calls Tryz.prog 102 #[.int .i64 n] w (SameBool w) := by
  by_cases h1 : 1 ≤ n
  · by_cases h2 : n ≤ 8192
    · exact (within_ok w n h1 h2).mono fun x w' ⟨hx, hw⟩ => ⟨⟨true, hx⟩, hw⟩
    · have d1 : decide (1 ≤ n) = true := by simpa using h1
      have d2 : decide (n ≤ 8192) = false := by simpa using h2
      go_enter Tryz.func102, Tryz.ntmps102
      go_wp2
      go_ret
      exact ⟨⟨false, rfl⟩, rfl⟩
  · have d1 : decide (1 ≤ n) = false := by simpa using h1
    go_enter Tryz.func102, Tryz.ntmps102
    go_wp2
    go_ret
    exact ⟨⟨false, rfl⟩, rfl⟩

/-- Some truth. -/
def SomeBool (w : World) (x : Ending) (w' : World) : Prop := (∃ b : Bool, x = .returned (.bool b)) ∧ Ex [] w w'
def SomeNum (w : World) (x : Ending) (w' : World) : Prop := (∃ b : Int, x = .returned (.int .i64 b)) ∧ Ex [] w w'

set_option maxHeartbeats 2000000 in
theorem rRight_some (w : World) (L A D : Int) : Calls Tryz.prog 70 #[.agg #[.int .i64 L, .int .i64 A, .int .i64 D]] w (SomeBool w) := by
  go_enter Tryz.func70, Tryz.ntmps70
  go_wp2_with fail
  refine (rWithin_any _ L).mono ?_
  rintro x w' ⟨⟨b1, rfl⟩, rfl⟩
  cases b1
  · go_wp2_with fail
    go_ret
    exact ⟨⟨_, rfl⟩, (Ex.refl [] w).alloc _⟩
  go_wp2_with fail
  refine (rWithin_any _ A).mono ?_
  rintro x w' ⟨⟨b1, rfl⟩, rfl⟩
  cases b1
  · go_wp2_with fail
    go_ret
    exact ⟨⟨_, rfl⟩, (Ex.refl [] w).alloc _⟩
  go_wp2_with fail
  refine (rWithin_any _ D).mono ?_
  rintro x w' ⟨⟨b1, rfl⟩, rfl⟩
  cases b1
  all_goals
    go_wp2_with fail
    go_ret
    exact ⟨⟨_, rfl⟩, (Ex.refl [] w).alloc _⟩

set_option maxHeartbeats 2000000 in
theorem rSectors_some (w : World) (L A D : Int) : Calls Tryz.prog 34 #[.agg #[.int .i64 L, .int .i64 A, .int .i64 D]] w (SomeNum w) := by
  go_enter Tryz.func34, Tryz.ntmps34
  go_wp2_with fail
  refine (rRight_some _ L A D).mono ?_
  rintro x w1 ⟨⟨b1, rfl⟩, hx1⟩
  have hb := hx1.obj (heap_alloc_new w _) (by simp)
  have c0 : w1.cell? ⟨w.heap.size, 0, none⟩ = some (.int .i64 L) := by rw [cell_of_block hb]; rfl
  have c1 : w1.cell? ⟨w.heap.size, 1, none⟩ = some (.int .i64 A) := by rw [cell_of_block hb]; rfl
  have c2 : w1.cell? ⟨w.heap.size, 2, none⟩ = some (.int .i64 D) := by rw [cell_of_block hb]; rfl
  have HX := Lib.hid (((Ex.refl [] w).alloc _).pure hx1)
  clear hx1 hb
  cases b1
  all_goals
    go_wp2_with fail
    go_ret
    exact ⟨⟨_, rfl⟩, HX.out⟩

/-- How many bytes the first ones have. -/
def sumB (ds : List DeedP) (k : Nat) : Nat := ((ds.take k).map fun x => x.b.length).sum

theorem sumB_succ (ds : List DeedP) (k : Nat) (h : k < ds.length) : sumB ds (k + 1) = sumB ds k + ds[k].b.length := by
  unfold sumB
  rw [List.take_succ_eq_append_getElem h]
  simp only [List.map_append, List.map_cons, List.map_nil, List.sum_append, List.sum_cons, List.sum_nil, Nat.add_zero]

theorem sumB_mono (ds : List DeedP) (k : Nat) : ∀ i, i < k → (hi : i < ds.length) → ds[i].b.length ≤ sumB ds k := by
  induction k with
  | zero => intro i h; omega
  | succ k ih =>
    intro i h hi
    by_cases hk : k < ds.length
    · rw [sumB_succ ds k hk]
      by_cases hik : i = k
      · subst hik; omega
      · have := ih i (by omega) hi; omega
    · have e : sumB ds (k + 1) = sumB ds k := by unfold sumB; rw [List.take_of_length_le (by omega), List.take_of_length_le (by omega)]
      rw [e]
      exact ih i (by omega) hi

/-- What great tells: where it says no there are not many, and they are short. -/
def Great (w : World) (ds : List DeedP) (x : Ending) (w' : World) : Prop := ∃ b : Bool, x = .returned (.bool b) ∧ Ex [] w w' ∧ (b = false → ds.length ≤ 60 ∧ ∀ x ∈ ds, x.b.length ≤ 6000)

set_option maxRecDepth 100000 in
set_option maxHeartbeats 4000000 in
theorem great_any (w : World) (L A D : Int) (lv : Value) (ds : List DeedP) (hd : Deeds w lv ds) :
    Calls Tryz.prog 7 #[.agg #[.int .i64 L, .int .i64 A, .int .i64 D], lv] w (Great w ds) := by
  have HD := Lib.hid hd
  obtain ⟨_, a, cap, rfl, hc1, hc2, hc3, _⟩ := hd.1
  have hb0 := heap_alloc_new w (.cells #[.int .i64 L, .int .i64 A, .int .i64 D] 23)
  have HX := Lib.hid (And.intro ((Ex.refl [] w).alloc (.cells #[.int .i64 L, .int .i64 A, .int .i64 D] 23)) hb0)
  unfold maxLen at hc2
  clear hd hb0
  go_enter Tryz.func7, Tryz.ntmps7
  go_wp2_with fail
  have q0 : (w.alloc (.cells #[.int .i64 L, .int .i64 A, .int .i64 D] 23)).cell? ⟨w.heap.size, 0, none⟩ = some (.int .i64 L) := (cell_of_block HX.out.2).trans rfl
  have q1 : (w.alloc (.cells #[.int .i64 L, .int .i64 A, .int .i64 D] 23)).cell? ⟨w.heap.size, 1, none⟩ = some (.int .i64 A) := (cell_of_block HX.out.2).trans rfl
  have q2 : (w.alloc (.cells #[.int .i64 L, .int .i64 A, .int .i64 D] 23)).cell? ⟨w.heap.size, 2, none⟩ = some (.int .i64 D) := (cell_of_block HX.out.2).trans rfl
  generalize w.alloc (.cells #[.int .i64 L, .int .i64 A, .int .i64 D] 23) = w1 at *
  go_loop [5, 6] (fun n i => ∃ k : Nat, k ≤ ds.length ∧ k ≤ 60 ∧ i = .int .i64 k ∧ n = .int .i64 (sumB ds k) ∧ Hid (sumB ds k ≤ k * 140737488355328)) (fun _ i => 60 - (intOf i).toNat)
  case atStart => exact ⟨0, Nat.zero_le _, by decide, rfl, rfl, Nat.zero_le _⟩
  case round =>
    obtain ⟨k, hk, hk6, rfl, rfl, HS⟩ := hrel
    have hsb := HS.out
    by_cases hlt : k < ds.length ∧ k < 60
    · obtain ⟨hlt, h60⟩ := hlt
      obtain ⟨b, o, rfl, d0, d1, d2, d3⟩ := (HD.out.pure HX.out.1).at k hlt
      have hdk := HD.out.2 ds[k] (List.getElem_mem hlt)
      have hbl := hdk.2.2.2.2
      obtain ⟨_, va, vc, hv, _⟩ := hdk.1
      have hss := sumB_succ ds k hlt
      rw [hv] at d3
      have HSS := Lib.hid hss
      have e1 : decide ((k : Int) < (ds.length : Int)) = true := by simpa using hlt
      have e2 : decide ((k : Int) < 60) = true := by simp; omega
      clear hdk hv hss d0 d1 d2
      go_wp2_with fail
      go_round
      case rel => exact ⟨k + 1, by omega, by omega, by go_num, by rw [HSS.out]; go_num, by show _ ≤ _; rw [HSS.out]; omega⟩
      case measure => simp [intOf]; omega
    · have HN := Lib.hid hlt
      by_cases g1 : k < ds.length
      · have g2 : k = 60 := by omega
        have e1 : decide ((k : Int) < (ds.length : Int)) = true := by simpa using g1
        have e2 : decide ((k : Int) < 60) = false := by simp; omega
        have e3 : decide ((60 : Int) < (ds.length : Int)) = true := by simp; omega
        have HG := Lib.hid g2
        clear g2 hlt
        go_wp2_with fail
        go_ret
        exact ⟨true, rfl, HX.out.1, fun h => by cases h⟩
      · have e1 : decide ((k : Int) < (ds.length : Int)) = false := by simp; omega
        have e3 : decide ((60 : Int) < (ds.length : Int)) = false := by simp; omega
        have hend : ∀ x ∈ ds, x.b.length ≤ sumB ds k := by
          intro x hx
          obtain ⟨i, hi, rfl⟩ := List.mem_iff_getElem.1 hx
          exact sumB_mono ds k i (by omega) hi
        have HE := Lib.hid (And.intro (show ds.length ≤ 60 by omega) hend)
        clear hlt hend
        by_cases g3 : 6000 < sumB ds k
        · have e4 : decide ((6000 : Int) < (sumB ds k : Int)) = true := by simp; omega
          go_wp2_with fail
          go_ret
          exact ⟨true, rfl, HX.out.1, fun h => by cases h⟩
        · have e4 : decide ((6000 : Int) < (sumB ds k : Int)) = false := by simp; omega
          go_wp2_with fail
          refine (rSectors_some _ L A D).mono ?_
          rintro x w2 ⟨⟨nn, rfl⟩, hx2⟩
          have HX2 := Lib.hid (HX.out.1.pure hx2)
          clear hx2 q0 q1 q2
          go_wp2_with fail
          go_ret
          exact ⟨_, rfl, HX2.out, fun _ => ⟨HE.out.1, fun x hx => by have := HE.out.2 x hx; omega⟩⟩
end Go.Proofs.YtckmpdplmpgniaaGreat
