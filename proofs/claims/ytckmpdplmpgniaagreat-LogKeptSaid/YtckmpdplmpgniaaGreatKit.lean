/- Contracts of package spencekit: Pick, SameBytes. No condition but ranges. -/
import Derived.Test.YtckmpdplmpgniaaGreatLogJ
namespace Go.Proofs.YtckmpdplmpgniaaGreat
open Go Go.RowKit

/-- Pick(x, n) of a great enough n. -/
def pick (x : Int) (n : Nat) : Int := x % n

set_option maxHeartbeats 1000000 in
theorem Pick_any (w : World) (x : Int) (hx : -9223372036854775808 ≤ x ∧ x ≤ 9223372036854775807) :
    Calls Tryz.prog 13 #[.int .i64 x, .int .i64 9] w fun r w' => r = .returned (.int .i64 (pick x 9)) ∧ w = w' := by
  obtain ⟨h1, h2⟩ := hx
  by_cases hpos : 0 ≤ x
  · have hq : x.tmod 9 = x % 9 := Int.tmod_eq_emod_of_nonneg hpos
    have hm1 := Int.emod_nonneg x (show (9 : Int) ≠ 0 by decide)
    have hm2 := Int.emod_lt_of_pos x (show (0 : Int) < 9 by decide)
    have HP : Hid (pick x 9 = x % 9) := rfl
    generalize x % 9 = m at *
    go_enter Tryz.func13, Tryz.ntmps13
    go_wp2
    go_ret
    exact ⟨by rw [HP.out]; rfl, rfl⟩
  · have hq : ∃ t : Int, x.tmod 9 = t ∧ -9 < t ∧ t ≤ 0 ∧ (t < 0 → pick x 9 = t + 9) ∧ (t = 0 → pick x 9 = 0) := by
      have hm1 := Int.emod_nonneg x (show (9 : Int) ≠ 0 by decide)
      have hm2 := Int.emod_lt_of_pos x (show (0 : Int) < 9 by decide)
      have e := @Int.tmod_eq_emod x 9
      have hpk : pick x 9 = x % 9 := rfl
      rw [hpk]
      by_cases hd : (9 : Int) ∣ x
      · have h0 := Int.emod_eq_zero_of_dvd hd
        rw [if_pos (Or.inr hd)] at e
        exact ⟨x.tmod 9, rfl, by omega, by omega, by omega, by omega⟩
      · rw [if_neg (by rintro (h | h); exact hpos h; exact hd h)] at e
        have h0 : x % 9 ≠ 0 := fun h => hd (Int.dvd_of_emod_eq_zero h)
        have h9 : ((Int.natAbs 9 : Nat) : Int) = 9 := rfl
        exact ⟨x.tmod 9, rfl, by omega, by omega, by omega, by omega⟩
    obtain ⟨t, ht, t1, t2, t3, t4⟩ := hq
    have HP := Lib.hid (And.intro t3 t4)
    have HP0 := t4
    clear t3 t4
    by_cases h0 : t < 0
    · clear HP0
      go_enter Tryz.func13, Tryz.ntmps13
      go_wp2
      go_ret
      exact ⟨by rw [HP.out.1 h0]; rfl, rfl⟩
    · obtain rfl : t = 0 := by omega
      have HP1 := Lib.hid (HP0 rfl)
      clear HP0 HP
      go_enter Tryz.func13, Tryz.ntmps13
      go_wp2
      go_ret
      exact ⟨by rw [HP1.out]; rfl, rfl⟩

set_option maxRecDepth 100000 in
set_option maxHeartbeats 2000000 in
theorem SameBytes_any (w : World) (a b : List UInt8) (u v : Value) (hu : RdB w u a) (hv : RdB w v b) (ha : a.length ≤ 1000000000) (hb : b.length ≤ 1000000000) :
    Calls Tryz.prog 23 #[u, v] w fun r w' => r = .returned (.bool (decide (a = b))) ∧ Ex [] w w' := by
  obtain ⟨_, a1, c1, rfl, _, _, _, h4⟩ := hu
  obtain ⟨_, a2, c2, rfl, _, _, _, g4⟩ := hv
  have HA := Lib.hid h4
  have HB := Lib.hid g4
  clear h4 g4
  by_cases hl : a.length = b.length
  · go_enter Tryz.func23, Tryz.ntmps23
    go_wp2_with fail
    go_loopw [5] (fun i wr => ∃ k : Nat, k ≤ a.length ∧ i = .int .i64 k ∧ Hid (a.take k = b.take k) ∧ Hid (∃ n, wr = w.drewN n)) (fun i _ => a.length - (intOf i).toNat)
    case atStart => exact ⟨0, by omega, rfl, rfl, 0, rfl⟩
    case round =>
      obtain ⟨k, hk, rfl, htk, hw⟩ := hrel
      obtain ⟨nw, rfl⟩ := hw.out
      by_cases hlt : k < a.length
      · obtain ⟨b1, o1, rfl, q1⟩ := HA.out (by omega)
        obtain ⟨b2, o2, rfl, q2⟩ := HB.out (by omega)
        have x1 : w.cell? ⟨b1, o1 + k, none⟩ = some (.int .u8 (a[k].toNat : Int)) := q1 k _ (by rw [encB_get, List.getElem?_eq_getElem hlt]; rfl)
        have x2 : w.cell? ⟨b2, o2 + k, none⟩ = some (.int .u8 (b[k].toNat : Int)) := q2 k _ (by rw [encB_get, List.getElem?_eq_getElem (by omega)]; rfl)
        have i0 : (0 : Int) ≤ (k : Int) := Int.natCast_nonneg _
        have i1 : (k : Int) < (a.length : Int) := by omega
        have i2 : (k : Int) < (b.length : Int) := by omega
        have HT1 := Lib.hid (List.take_succ_eq_append_getElem hlt)
        have HT2 := Lib.hid (List.take_succ_eq_append_getElem (show k < b.length by omega))
        have hkb : k < b.length := by omega
        by_cases he : a[k] = b[k]
        · have hb1 : ((a[k].toNat : Int) != (b[k].toNat : Int)) = false := by rw [he]; simp
          have HE := Lib.hid he
          clear he q1 q2
          generalize a[k] = ya at *
          generalize b[k] = yb at *
          go_wp2_with fail
          go_quiet (fail)
          go_wp2
          exact ⟨⟨k + 1, by omega, by go_num, by show _ = _; rw [HT1.out, HT2.out, htk.out, HE.out], ⟨nw + nq, rfl⟩⟩, by simp [intOf]; omega⟩
        · have hb1 : ((a[k].toNat : Int) != (b[k].toNat : Int)) = true := by
            simp only [bne_iff_ne, ne_eq, Int.natCast_inj]
            exact fun h => he (UInt8.toNat_inj.1 h)
          have HN : Hid (decide (a = b) = false) := by
            show _ = _
            rw [decide_eq_false_iff_not]
            rintro rfl
            exact he rfl
          have HE := Lib.hid he
          clear he q1 q2
          generalize a[k] = ya at *
          generalize b[k] = yb at *
          go_wp2_with fail
          go_quiet (fail)
          go_wp2
          go_ret
          exact ⟨by rw [HN.out]; rfl, ((Ex.refl [] w).drewN _).drewN _⟩
      · have HN : Hid (decide (a = b) = true) := by
          show _ = _
          rw [decide_eq_true_iff]
          have := htk.out
          obtain rfl : k = a.length := by omega
          rw [List.take_length, hl, List.take_length] at this
          exact this
        go_wp2_with fail
        go_ret
        exact ⟨by rw [HN.out]; rfl, (Ex.refl [] w).drewN _⟩
  · have hb1 : ((a.length : Int) != (b.length : Int)) = true := by simp only [bne_iff_ne, ne_eq]; omega
    have HN : Hid (decide (a = b) = false) := by
      show _ = _
      rw [decide_eq_false_iff_not]
      rintro rfl
      exact hl rfl
    clear hl
    go_enter Tryz.func23, Tryz.ntmps23
    go_wp2_with fail
    go_ret
    exact ⟨by rw [HN.out]; rfl, Ex.refl [] w⟩
end Go.Proofs.YtckmpdplmpgniaaGreat
