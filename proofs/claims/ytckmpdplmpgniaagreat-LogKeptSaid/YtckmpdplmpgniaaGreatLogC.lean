/- Contracts of package log: reading a region. No condition but ranges. -/
import Derived.Test.YtckmpdplmpgniaaGreatLogB
import Derived.Test.YtckmpdplmpgniaaGreatDevH
namespace Go.Proofs.YtckmpdplmpgniaaGreat
open Go Go.RowKit

/-- What is seen of so many sectors, one behind the other. -/
def Dv.run (d : Dv) (f k : Nat) : List UInt8 := (List.range k).flatMap fun i => d.seen (f + i)

theorem Dv.run_succ (d : Dv) (f k : Nat) : d.run f (k + 1) = d.run f k ++ d.seen (f + k) := by
  simp [Dv.run, List.range_succ, List.flatMap_append]

theorem Dv.seen_length {d : Dv} (h : d.ok) {at_ : Nat} (hat : at_ < d.kept.length) : (d.seen at_).length = 64 := by
  unfold Dv.seen
  cases hf : d.pend.reverse.find? (fun p => p.1 == at_) with
  | none => simpa [List.getD, List.getElem?_eq_getElem hat] using h.2.2.1 _ (List.getElem_mem hat)
  | some p => simpa using (h.2.2.2.1 p (List.mem_reverse.1 (List.mem_of_find?_eq_some hf))).2

theorem Dv.run_length {d : Dv} (h : d.ok) (f k : Nat) (hk : f + k ≤ d.kept.length) : (d.run f k).length = 64 * k := by
  induction k with
  | zero => rfl
  | succ k ih =>
    rw [Dv.run_succ, List.length_append, ih (by omega), Dv.seen_length h (by omega)]
    omega

/-- So many bytes of a region. -/
def Dv.bytes (d : Dv) (f many : Nat) : List UInt8 := (d.run f ((many + 63) / 64)).take many

theorem Rd.front {w : World} {size n cap m : Nat} {a : Option Addr} {xs : List Value} (h : Rd w size (.slice a n cap) n xs) (hm : m ≤ n) : Rd w size (.slice a m cap) m (xs.take (m * size)) := by
  obtain ⟨h1, a', cap', hv, h3, h4, h5, h6⟩ := h
  simp only [Value.slice.injEq, true_and] at hv
  obtain ⟨rfl, rfl⟩ := hv
  refine ⟨by rw [List.length_take, h1]; exact Nat.min_eq_left (Nat.mul_le_mul_right _ hm), a, cap, rfl, by omega, h4, h5, fun hp => ?_⟩
  obtain ⟨b, o, hb, hc⟩ := h6 (by omega)
  refine ⟨b, o, hb, fun j u hj => hc j u ?_⟩
  rw [List.getElem?_take] at hj
  split at hj
  · exact hj
  · cases hj

theorem bk_len (a : Option Addr) (n m c c' : Nat) : bk (.slice a n c) = bk (.slice a m c') := by cases a <;> rfl

theorem encB_take (l : List UInt8) (m : Nat) : (encB l).take m = encB (l.take m) := by simp [encB, List.map_take]

set_option maxRecDepth 100000 in
set_option maxHeartbeats 4000000 in
theorem read_up (w : World) (D : Nat) (F : List Nat) (d : Dv) (f m many : Nat) (hd : DevAt w D F d) (hu : d.down = false) (hp : d.pend.length ≤ 1000000) (hf : f + (many + 63) / 64 ≤ d.kept.length) :
    Calls Tryz.prog 42 #[.pointer (some ⟨D, 0, none⟩), .agg #[.int .i64 f, .int .i64 m], .int .i64 many] w fun x w' => ∃ a cap, x = .returned (.tuple #[.slice a many cap, .int .i64 0]) ∧ RdB w' (.slice a many cap) (d.bytes f many) ∧ Ex [] w w' ∧ (∀ k ∈ bk (.slice a many cap), w.heap.size ≤ k) ∧ (d.bytes f many).length = many ∧ Flat (.slice a many cap) := by
  have HD := Lib.hid hd
  have HU := Lib.hid hu
  have hk8 := hd.1.2.1
  have hx0 : Ex [] w (w.alloc (.cells #[.int .i64 f, .int .i64 m] 82)) := (Ex.refl [] w).alloc _
  have HX0 := Lib.hid hx0
  clear hd hx0 hu
  go_enter Tryz.func42, Tryz.ntmps42
  go_wp2_with fail
  go_loopw [6, 8] (fun v i wr => ∃ k : Nat, k ≤ (many + 63) / 64 ∧ i = .int .i64 ((f + k : Nat) : Int) ∧ (∃ a cap, v = .slice a (64 * k) cap ∧ 64 * k ≤ cap) ∧ Hid (Own wr 5 1 v (64 * k) (encB (d.run f k)) ∧ Ex [] w wr ∧ ∀ j ∈ bk v, w.heap.size ≤ j)) (fun _ i _ => f + (many + 63) / 64 - (intOf i).toNat)
  case atStart => exact ⟨0, by omega, rfl, ⟨none, 0, rfl, by omega⟩, World.ownsRow_nil _ _ _ _, HX0.out, by simp [bk, Value.ownBlock]⟩
  case round =>
    obtain ⟨k, hk, rfl, ⟨a, cap, rfl, hcap⟩, hown⟩ := hrel
    by_cases hlt : 64 * k < many
    · have hat : f + k < d.kept.length := by omega
      have hsl := Dv.seen_length HD.out.1 hat
      have HSL := Lib.hid (encB_length (d.seen (f + k)))
      go_wp2_with fail
      have ec : ((f : Int) + k) = ((f + k : Nat) : Int) := by omega
      rw [ec]
      refine (Read_up wr D F d (f + k) hp (HD.out.pure hown.out.2.1) HU.out hat).mono ?_
      rintro x w1 ⟨a1, cap1, rfl, ho1, hx1, hf1⟩
      have HO := Lib.hid (And.intro (own_pure hown.out.1 hx1) (And.intro (rd_of_owns ho1) (hown.out.2.1.pure hx1)))
      clear ho1 hx1 hf1 ec
      go_wp2_with (at_builtin; go_loud (refine wpList_app _ rfl _ _ 37 rfl Tryz.underlying37 info_u8 rfl (by decide) (.slice a (64 * k) cap) (64 * k) _ rfl HO.out.1 (.slice a1 64 cap1) 64 _ rfl HO.out.2.1 (encB_oneCell _) (by unfold maxLen; omega) (by omega) ?_); intro a' cap' w2 hown' hgrow hsw hnl)
      go_roundw
      case rel =>
        have ho := hown.out
        have e : 64 * (k + 1) = 64 * k + 64 := by omega
        have hrd := rd_of_owns hown'
        obtain ⟨_, a3, cap3, he3, hle3, _⟩ := hrd
        simp only [Value.slice.injEq, true_and] at he3
        refine ⟨k + 1, by omega, by first | go_num | (congr 1; omega), ⟨a', cap', by rw [e], by omega⟩, ?_, HO.out.2.2.grown hgrow (fun i hi => .inr (ho.2.2 i (by simp [bk, hi]))), ?_⟩
        · rw [Dv.run_succ, encB_append, e]
          exact hown'
        · intro j hj
          rcases hsw j hj with h | h
          · exact ho.2.2 j h
          · rw [h]; exact HO.out.2.2.size
      case measure => simp [intOf]; omega
    · have hmc : many ≤ cap := by omega
      go_wp2_with fail
      go_ret2
      obtain ⟨ho, hx, hfr⟩ := hown.out
      have hrun := Dv.run_length HD.out.1 f k (by omega)
      have hkk : k = (many + 63) / 64 := by omega
      have hb : d.bytes f many = (d.run f k).take many := by rw [Dv.bytes, hkk]
      have hlen : (d.bytes f many).length = many := by rw [hb, List.length_take, hrun]; omega
      have hpre := (rd_of_owns ho).front (m := many) (by omega)
      rw [Nat.mul_one, encB_take, ← hb] at hpre
      refine ⟨a, cap, rfl, by unfold RdB; rw [hlen]; exact hpre, hx, fun k' hk' => hfr k' (by rw [bk_len a (64 * k) many cap cap]; exact hk'), hlen, ?_⟩
      rcases flat_of_owns ho with ⟨n, c, e⟩ | ⟨b, o, n, c, e⟩
      · simp only [Value.slice.injEq] at e
        exact .inl ⟨many, cap, by rw [e.1]⟩
      · simp only [Value.slice.injEq] at e
        exact .inr ⟨b, o, many, cap, by rw [e.1]⟩
end Go.Proofs.YtckmpdplmpgniaaGreat
