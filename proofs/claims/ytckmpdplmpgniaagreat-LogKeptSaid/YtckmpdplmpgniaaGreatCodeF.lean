/- Contracts of package code's cursor: texts, what is left, the end. No condition but sizes. -/
import Derived.Test.YtckmpdplmpgniaaGreatCodeE
namespace Go.Proofs.YtckmpdplmpgniaaGreat
open Go Go.RowKit

/-- What Text(most) gets of bytes: the text and what is left, or the error. -/
def ctext (most : Int) (r : List UInt8) : Except Nat (List UInt8 × List UInt8) :=
  match cnum 1099511627776 r with
  | some (n, c) => if most < n then .error 3 else if n ≤ (r.drop c).length then .ok ((r.drop c).take n, (r.drop c).drop n) else .error 4
  | none => .error 4

/-- What Text(most) tells, and leaves. -/
def CText (w : World) (B : Nat) (F : List Nat) (r : List UInt8) (e : Nat) (most : Int) (x : Ending) (w' : World) : Prop :=
  match e, ctext most r with
  | 0, .ok (t, r') => ∃ a cap, x = .returned (.slice a t.length cap) ∧ Own w' 5 1 (.slice a t.length cap) t.length (encB t) ∧ (∀ k ∈ bk (.slice a t.length cap), w.heap.size ≤ k) ∧ CuTo w B F r' 0 w'
  | 0, .error f => x = .returned (.slice none 0 0) ∧ CuTo w B F [] f w'
  | e + 1, _ => x = .returned (.slice none 0 0) ∧ CuTo w B F [] (e + 1) w'

theorem cnum_nil (most : Int) : cnum most [] = none := rfl

set_option maxRecDepth 100000 in
set_option maxHeartbeats 1000000 in
theorem cText_any (w : World) (B : Nat) (F : List Nat) (r : List UInt8) (e : Nat) (most : Int) (hm1 : -9223372036854775808 ≤ most) (hm2 : most ≤ 9223372036854775807) (h : Cu w B F r e) :
    Calls Tryz.prog 82 #[.pointer (some ⟨B, 0, none⟩), .int .i64 most] w (CText w B F r e most) := by
  have HC := Lib.hid h
  have hz : e ≠ 0 → r = [] := by obtain ⟨v, rfl, hb, hr, hn, hl, hz, hf⟩ := h; exact hz
  clear h
  cases hn : cnum 1099511627776 r with
  | none =>
    have HN := Lib.hid hn
    clear hn
    have HP : Hid (∀ x w', x = .returned (.slice none 0 0) → CuTo w B F [] (brk e 4) w' → CText w B F r e most x w') := by
      intro x w' h1 h2
      have h3 : ctext most r = .error 4 := by unfold ctext; rw [HN.out]
      cases e with
      | zero => unfold CText; rw [h3]; exact ⟨h1, h2⟩
      | succ e => exact ⟨h1, by simpa [brk] using h2⟩
    clear hz
    go_enter Tryz.func82, Tryz.ntmps82
    go_wp2_with fail
    refine (cNum_any w B F r e _ (by decide) (by decide) HC.out).mono ?_
    intro x w1 hc
    unfold CNum at hc
    rw [HN.out] at hc
    obtain ⟨rfl, F1, hcu, hs, hx⟩ := hc
    obtain ⟨v, hF1, hb, hq⟩ := hcu
    have c1 : w1.cell? ⟨B, 1, none⟩ = some (.int .i64 (brk e 4)) := by rw [cell_of_block hb]; rfl
    have hne : ((brk e 4 : Nat) : Int) ≠ 0 := by unfold brk; split <;> omega
    have hb1 : (((brk e 4 : Nat) : Int) != 0) = true := by simpa using hne
    have HCU : Hid (Cu w1 B F1 [] (brk e 4)) := ⟨v, hF1, hb, hq⟩
    clear hb hq hF1 hne
    go_wp2_with fail
    go_ret
    exact HP.out _ _ rfl ⟨F1, HCU.out, hs, hx⟩
  | some p =>
    obtain ⟨n, c⟩ := p
    have HN := Lib.hid hn
    obtain rfl : e = 0 := by
      rcases Nat.eq_zero_or_pos e with h | h
      · exact h
      · rw [hz (by omega), cnum_nil] at hn
        cases hn
    have hcs := cnum_some _ _ _ _ hn
    have hn1 := hcs.1
    clear hn hz hcs
    go_enter Tryz.func82, Tryz.ntmps82
    go_wp2_with fail
    refine (cNum_any w B F r 0 _ (by decide) (by decide) HC.out).mono ?_
    intro x w1 hc
    unfold CNum at hc
    rw [HN.out] at hc
    obtain ⟨rfl, F1, hcu, hs, hx⟩ := hc
    have HCU := Lib.hid hcu
    obtain ⟨v, hF1, hb, hq⟩ := hcu
    have c1 : w1.cell? ⟨B, 1, none⟩ = some (.int .i64 ((0 : Nat) : Int)) := by rw [cell_of_block hb]; rfl
    clear hb hq hF1
    by_cases hbig : most < n
    · go_wp2_with (go_at_call 107; refine (fail_any _ B F1 _ 0 3 HCU.out).mono ?_; rintro x w' ⟨rfl, hcu⟩)
      go_ret
      have h3 : ctext most r = .error 3 := by unfold ctext; rw [HN.out]; simp [hbig]
      unfold CText
      rw [h3]
      exact ⟨rfl, CuTo.trans hs hx hcu⟩
    · go_wp2_with fail
      refine (cRaw_any _ B F1 _ 0 _ (by omega) (by omega) HCU.out).mono ?_
      intro x w2 hc
      by_cases hl : n ≤ (r.drop c).length
      · unfold CRaw at hc
        rw [if_pos ⟨rfl, by omega, by omega⟩] at hc
        simp only [Int.toNat_natCast] at hc
        obtain ⟨a, cap, rfl, ho, hk, hcu⟩ := hc
        have HO := Lib.hid ho
        have HK := Lib.hid hk
        have HCU2 := Lib.hid hcu
        clear ho hk hcu
        go_wp2_with fail
        go_ret
        have h3 : ctext most r = .ok ((r.drop c).take n, (r.drop c).drop n) := by unfold ctext; rw [HN.out]; exact (if_neg (by omega)).trans (if_pos hl)
        unfold CText
        rw [h3]
        have hlen : ((r.drop c).take n).length = n := by rw [List.length_take]; omega
        simp only [hlen]
        exact ⟨a, cap, rfl, HO.out, fun k hk => Nat.le_trans hx.size (HK.out k hk), CuTo.trans hs hx HCU2.out⟩
      · unfold CRaw at hc
        rw [if_neg (fun h => hl (by omega))] at hc
        obtain ⟨rfl, hcu⟩ := hc
        have HCU2 := Lib.hid hcu
        clear hcu
        go_wp2_with fail
        go_ret
        have h3 : ctext most r = .error 4 := by unfold ctext; rw [HN.out]; exact (if_neg (by omega)).trans (if_neg hl)
        unfold CText
        rw [h3]
        exact ⟨rfl, CuTo.trans hs hx HCU2.out⟩

set_option maxHeartbeats 400000 in
theorem Left_any (w : World) (B : Nat) (F : List Nat) (r : List UInt8) (e : Nat) (h : Cu w B F r e) :
    Calls Tryz.prog 81 #[.pointer (some ⟨B, 0, none⟩)] w fun x w' => x = .returned (.int .i64 r.length) ∧ w = w' := by
  obtain ⟨v, rfl, hb, hr, hn, hl, hz, hf⟩ := h
  have c0 : w.cell? ⟨B, 0, none⟩ = some v := by rw [cell_of_block hb]; rfl
  obtain ⟨hq1, a, cap, rfl, hc1, hc2, hq2, hc4⟩ := hr
  clear hb hc4 hn hq1 hz hf hq2
  go_enter Tryz.func81, Tryz.ntmps81
  go_wp2
  go_ret
  exact ⟨rfl, rfl⟩

/-- End's answer. -/
def cend (r : List UInt8) (e : Nat) : Nat := if e = 0 ∧ 0 < r.length then 4 else e

set_option maxHeartbeats 400000 in
theorem End_any (w : World) (B : Nat) (F : List Nat) (r : List UInt8) (e : Nat) (h : Cu w B F r e) :
    Calls Tryz.prog 83 #[.pointer (some ⟨B, 0, none⟩)] w fun x w' => x = .returned (.int .i64 (cend r e)) ∧ w = w' := by
  obtain ⟨v, rfl, hb, hr, hn, hl, hz, hf⟩ := h
  have c0 : w.cell? ⟨B, 0, none⟩ = some v := by rw [cell_of_block hb]; rfl
  have c1 : w.cell? ⟨B, 1, none⟩ = some (.int .i64 e) := by rw [cell_of_block hb]; rfl
  obtain ⟨hq1, a, cap, rfl, hc1, hc2, hq2, hc4⟩ := hr
  clear hb hc4 hn hq1 hz hf hq2
  by_cases he : e = 0
  · subst he
    by_cases hp : 0 < r.length
    · have HE : Hid (cend r 0 = 4) := by show _ = _; simp only [cend, hp, and_self, if_true]
      go_enter Tryz.func83, Tryz.ntmps83
      go_wp2
      go_ret
      exact ⟨by rw [HE.out]; rfl, rfl⟩
    · have HE : Hid (cend r 0 = 0) := by show _ = _; unfold cend; rw [if_neg (fun h => hp h.2)]
      go_enter Tryz.func83, Tryz.ntmps83
      go_wp2
      go_ret
      exact ⟨by rw [HE.out]; rfl, rfl⟩
  · have hb1 : ((e : Int) == 0) = false := by simpa using he
    have HE : Hid (cend r e = e) := by show _ = _; unfold cend; rw [if_neg (fun h => he h.1)]
    clear he
    go_enter Tryz.func83, Tryz.ntmps83
    go_wp2
    go_ret
    exact ⟨by rw [HE.out]; rfl, rfl⟩
end Go.Proofs.YtckmpdplmpgniaaGreat
