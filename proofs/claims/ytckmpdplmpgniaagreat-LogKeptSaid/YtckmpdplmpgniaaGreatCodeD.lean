/- Contracts of package code's cursor: Num. No condition but sizes. -/
import Derived.Test.YtckmpdplmpgniaaGreatCodeC
import Derived.Test.YtckmpdplmpgniaaGreatBits
namespace Go.Proofs.YtckmpdplmpgniaaGreat
open Go Go.RowKit

/-- What Num(most) tells, and what it leaves. -/
def CNum (w : World) (B : Nat) (F : List Nat) (r : List UInt8) (e : Nat) (most : Int) (x : Ending) (w' : World) : Prop :=
  match cnum most r with
  | some (n, c) => x = .returned (.int .i64 n) ∧ CuTo w B F (r.drop c) e w'
  | none => x = .returned (.int .i64 0) ∧ CuTo w B F [] (brk e 4) w'

theorem CNum.none {w : World} {B : Nat} {F : List Nat} {r : List UInt8} {e : Nat} {most : Int} {x : Ending} {w' : World} (h : cnum most r = none) (hx : x = .returned (.int .i64 0)) (hc : CuTo w B F [] (brk e 4) w') : CNum w B F r e most x w' := by
  unfold CNum
  rw [h]
  exact ⟨hx, hc⟩

theorem CNum.some {w : World} {B : Nat} {F : List Nat} {r : List UInt8} {e : Nat} {most : Int} {x : Ending} {w' : World} {n c : Nat} (h : cnum most r = some (n, c)) (hx : x = .returned (.int .i64 n)) (hc : CuTo w B F (r.drop c) e w') : CNum w B F r e most x w' := by
  unfold CNum
  rw [h]
  exact ⟨hx, hc⟩

/-- What is left behind the first bytes of a cursor's. -/
theorem rest_drop {w : World} {b o n cap c : Nat} {a : Option Addr} {r : List UInt8} (h : RdB w (.slice (some ⟨b, o, none⟩) n cap) r) (hn : n = r.length) (hc : c ≤ n) (ha : a = some ⟨b, o, none⟩ ∧ cap = c ∨ a = some ⟨b, o + c, none⟩) : RdB w (.slice a (n - c) (cap - c)) (r.drop c) := by
  subst hn
  obtain ⟨h1, a', cap', hv, h3, h4, h5, h6⟩ := h
  simp only [Value.slice.injEq, true_and] at hv
  obtain ⟨rfl, rfl⟩ := hv
  unfold RdB
  rw [List.length_drop]
  refine ⟨by simp [encB], a, cap - c, rfl, by omega, by unfold maxLen at *; omega, ?_, ?_⟩
  · rintro rfl
    rcases ha with ⟨h, _⟩ | h <;> simp at h
  · intro hp
    obtain ⟨b', o', hb, hcell⟩ := h6 (by omega)
    simp only [Option.some.injEq, Addr.mk.injEq, and_true] at hb
    obtain ⟨rfl, rfl⟩ := hb
    rcases ha with ⟨rfl, rfl⟩ | rfl
    · omega
    · refine ⟨b, o + c, rfl, fun j u hj => ?_⟩
      have := hcell (c + j) u (by
        rw [encB_get] at hj ⊢
        rw [List.getElem?_drop] at hj
        exact hj)
      rw [show o + c + j = o + (c + j) from by omega]
      exact this

theorem cu_rest {w : World} {B b o cap c : Nat} {a : Option Addr} {r : List UInt8} {e cap' : Nat} (hb : w.heap[B]? = some (.cells #[.slice (some ⟨b, o, none⟩) r.length cap, .int .i64 e] 189 (0, 0))) (hn : ∀ k ∈ bk (.slice (some ⟨b, o, none⟩) r.length cap), k ≠ B) (hr : RdB w (.slice (some ⟨b, o, none⟩) r.length cap) r) (hl : r.length ≤ 1000000000) (hz : e ≠ 0 → r = [])
    (hc : c ≤ r.length) (ha : a = some ⟨b, o, none⟩ ∧ cap = c ∨ a = some ⟨b, o + c, none⟩) (hcap : cap' = cap - c) :
    CuTo w B (B :: bk (.slice (some ⟨b, o, none⟩) r.length cap)) (r.drop c) e (w.setCell ⟨B, 0, none⟩ (.slice a (r.length - c) cap')) := by
  subst hcap
  have hx : Ex [B] w (w.setCell ⟨B, 0, none⟩ (.slice a (r.length - c) (cap - c))) := (Ex.refl [B] w).setCell (.inl (by simp)) _
  have hbk : bk (.slice a (r.length - c) (cap - c)) = [b] := by rcases ha with ⟨rfl, _⟩ | rfl <;> rfl
  have hne : b ≠ B := hn b (by simp [bk, Value.ownBlock])
  refine ⟨B :: bk (.slice a (r.length - c) (cap - c)), ⟨_, rfl, ?_, ?_, ?_, ?_, fun h => by rw [hz h]; simp, ?_⟩, ?_, hx⟩
  · rw [block_setCell hb]; rfl
  · have := (rest_drop hr rfl hc ha).ex hx (by intro k hk _; rw [hbk] at hk; simp at hk ⊢; omega)
    have e1 : (r.drop c).length = r.length - c := List.length_drop ..
    rw [← e1] at this ⊢
    exact this
  · rw [hbk]; simpa using hne
  · simp; omega
  · rcases ha with ⟨rfl, _⟩ | rfl <;> exact .inr ⟨_, _, _, _, rfl⟩
  · intro k hk
    rw [hbk] at hk
    simpa [bk, Value.ownBlock] using hk

set_option maxRecDepth 100000 in
set_option maxHeartbeats 2000000 in
theorem cNum_any (w : World) (B : Nat) (F : List Nat) (r : List UInt8) (e : Nat) (most : Int) (hm1 : -9223372036854775808 ≤ most) (hm2 : most ≤ 9223372036854775807) (h : Cu w B F r e) :
    Calls Tryz.prog 79 #[.pointer (some ⟨B, 0, none⟩), .int .i64 most] w (CNum w B F r e most) := by
  have HC := Lib.hid h
  obtain ⟨v, rfl, hb, hr, hn, hl, hz, _⟩ := h
  have HZ := Lib.hid hz
  clear hz
  have c0 : w.cell? ⟨B, 0, none⟩ = some v := by rw [cell_of_block hb]; rfl
  have f0 : w.frozen? ⟨B, 0, none⟩ = false := free_of_block hb
  have HB := Lib.hid hb
  have HN := Lib.hid hn
  have HR := Lib.hid hr
  obtain ⟨hq1, a, cap, rfl, hc1, hc2, hq2, hc4⟩ := hr
  unfold maxLen at hc2
  clear hb hc4 hn hq1 hq2
  go_enter Tryz.func79, Tryz.ntmps79
  go_wp2
  go_step3
  go_wp2
  go_step3
  go_wp2
  go_loop [5, 6, 7, 8, 16] (fun s5 s6 s7 s8 i => ∃ k ac : Nat, k ≤ r.length ∧ k ≤ 6 ∧ i = .int .i64 k ∧ s5 = .int .u64 ac ∧ s6 = .int .i64 0 ∧ Hid (ac = acc (r.take k) ∧ ∀ y ∈ r.take k, 128 ≤ y.toNat)) (fun _ _ _ _ i => r.length - (intOf i).toNat)
  case atStart => exact ⟨0, 0, by omega, by omega, rfl, rfl, rfl, by simp [acc, Hid]⟩
  case round =>
    obtain ⟨k, ac, hk, hk6, rfl, rfl, rfl, ha⟩ := hrel
    by_cases hlt : k < r.length
    · obtain ⟨b, o, rfl, hc⟩ := HR.out.at (by omega)
      have hck := hc k _ (by rw [encB_get, List.getElem?_eq_getElem hlt]; rfl)
      have HSP : Hid (r = r.take k ++ r[k] :: r.drop (k + 1)) := by
        have := List.take_append_drop k r
        rw [List.drop_eq_getElem_cons hlt] at this
        exact this.symm
      have HTK : Hid (r.take (k + 1) = r.take k ++ [r[k]]) := List.take_succ_eq_append_getElem hlt
      clear hc
      have hac : ac < 128 ^ k := by
        have h1 := ha.out.1
        have h2 := acc_lt (r.take k)
        rw [List.length_take, Nat.min_eq_left hk] at h2
        rw [h1]; exact h2
      have HAC := Lib.hid hac
      clear hac
      generalize r[k] = x at *
      by_cases h6 : k = 6
      · have HD : Hid (cnum most r = none) := by
          have h3 := ha.out.2
          show cnum most r = none
          unfold cnum
          rw [HSP.out, decF_none 6 _ _ h3 (.inl (by rw [List.length_take]; omega))]
        subst h6
        go_wp2_with (go_at_call 107; refine (fail_any _ B _ r e 4 HC.out).mono ?_; rintro x w' ⟨rfl, hcu⟩)
        rw [Exit.noGoto_ret]
        go_ret
        exact CNum.none HD.out rfl hcu
      have h6' : k < 6 := by omega
      clear h6
      by_cases hx2 : x.toNat < 128
      · have HN2 : Hid (bits BinOp.or IntKind.u64 (ac : Int) (IntKind.u64.wrap ((x.toNat : Int) * 2 ^ (7 * k))) = ((ac + 128 ^ k * x.toNat : Nat) : Int)) := or_seven ac x.toNat k h6' HAC.out hx2
        have HD : Hid (decF 6 r = some (ac + 128 ^ k * x.toNat, k + 1)) := by
          show _ = _
          have := decF_end 6 (r.take k) x (r.drop (k + 1)) ha.out.2 hx2 (by rw [List.length_take]; omega)
          rw [← HSP.out, ← ha.out.1, List.length_take, Nat.min_eq_left hk] at this
          exact this
        have hn42 : ac + 128 ^ k * x.toNat < 18446744073709551616 := by
          have := decF_len 6 r _ _ HD.out
          have h35 : 128 ^ (k + 1) ≤ 128 ^ 6 := Nat.pow_le_pow_right (by decide) (by omega)
          omega
        go_wp2_with fail
        rw [HN2.out]
        generalize ac + 128 ^ k * x.toNat = n at *
        refine (length_any w n hn42).mono ?_
        rintro y w' ⟨rfl, rfl⟩
        generalize hL : (num n).length = L at *
        have HL := Lib.hid hL
        clear hL
        by_cases hgood : k + 1 = L ∧ n ≤ 1099511627776 ∧ (n : Int) ≤ most
        · have HG : Hid (cnum most r = some (n, k + 1)) := by
            show _ = _
            unfold cnum
            rw [HD.out]
            simp only [HL.out, hgood, and_self, if_true]
          obtain ⟨g1, g2, g3⟩ := hgood
          have b1 : ((k : Int) + 1 != L) = false := by rw [← g1]; simp
          have b0 : ((k : Int) + 1 == 0) = false := by simp; omega
          clear g1
          by_cases hcap : cap = k + 1
          · subst hcap
            go_wp2_with fail
            rw [Exit.noGoto_ret]
            go_ret
            have hcu := cu_rest (cap' := 0) (c := k + 1) HB.out HN.out HR.out hl HZ.out (by omega) (.inl ⟨rfl, rfl⟩) (by omega)
            rw [show r.length - (k + 1) = 0 from by omega] at hcu
            exact CNum.some HG.out rfl hcu
          · go_wp2_with fail
            rw [Exit.noGoto_ret]
            go_ret
            exact CNum.some HG.out rfl (cu_rest HB.out HN.out HR.out hl HZ.out (by omega) (.inr rfl) rfl)
        · have HG : Hid (cnum most r = none) := by
            show _ = _
            unfold cnum
            rw [HD.out]
            simp only [HL.out, if_neg hgood]
          have HH := Lib.hid hgood
          clear hgood
          have b0 : ((k : Int) + 1 == 0) = false := by simp; omega
          have hbad : ((k : Int) + 1 != L) = true ∨ ((k : Int) + 1 != L) = false ∧ (1099511627776 < (n : Int) ∨ (n : Int) ≤ 1099511627776 ∧ (most < 0 ∨ 0 ≤ most ∧ most < n)) := by
            have := HH.out
            by_cases q1 : k + 1 = L
            · right
              refine ⟨by rw [← q1]; simp, ?_⟩
              omega
            · left
              simp; omega
          rcases hbad with q | ⟨q, q1 | ⟨q1, q2 | ⟨q2, q3⟩⟩⟩
          all_goals
            go_wp2_with (go_at_call 107; refine (fail_any _ B _ r e 4 HC.out).mono ?_; rintro x w' ⟨rfl, hcu⟩)
            rw [Exit.noGoto_ret]
            go_ret
            exact CNum.none HG.out rfl hcu
      · go_wp2_with fail
        have HX : Hid (acc (r.take (k + 1)) = ac + 128 ^ k * (x.toNat % 128)) := by
          show _ = _
          rw [HTK.out, acc_snoc, ← ha.out.1, List.length_take, Nat.min_eq_left hk]
        go_round
        case rel =>
          refine ⟨k + 1, ac + 128 ^ k * (x.toNat % 128), by omega, by omega, by go_num, ?_, rfl, ⟨HX.out.symm, ?_⟩⟩
          · rw [andNot128, wrap_u64 _ (by omega), or_seven ac _ k h6' HAC.out (Nat.mod_lt _ (by decide))]
          · rw [HTK.out]
            intro y hy
            rcases List.mem_append.1 hy with hy | hy
            · exact ha.out.2 y hy
            · simp at hy; subst hy; omega
        case measure => simp [intOf]; omega
    · have HD : Hid (cnum most r = none) := by
        have h3 := ha.out.2
        have hk2 : k = r.length := by omega
        show cnum most r = none
        rw [List.take_of_length_le (by omega)] at h3
        unfold cnum
        have := decF_none 6 r [] h3 (.inr rfl)
        rw [List.append_nil] at this
        rw [this]
      go_wp2_with (go_at_call 107; refine (fail_any _ B _ r e 4 HC.out).mono ?_; rintro x w' ⟨rfl, hcu⟩)
      rw [Exit.noGoto_ret]
      go_ret
      exact CNum.none HD.out rfl hcu
end Go.Proofs.YtckmpdplmpgniaaGreat
