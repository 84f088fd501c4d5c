/- Contracts of package code's maker: numbers, bytes, texts, the end. No condition but sizes. -/
import Derived.Test.YtckmpdplmpgniaaGreatCodeA
namespace Go.Proofs.YtckmpdplmpgniaaGreat
open Go Go.RowKit

/-- The cells of numbers. -/
def encI (l : List Nat) : List Value := l.map fun (x : Nat) => Value.int .i64 (x : Int)
theorem encI_get (l : List Nat) (j : Nat) : (encI l)[j]? = (l[j]?).map fun (x : Nat) => Value.int .i64 (x : Int) := by simp [encI]

theorem nums_take (l : List Nat) (k : Nat) (h : k < l.length) : nums (l.take (k + 1)) = nums (l.take k) ++ num l[k] := by
  rw [List.take_succ_eq_append_getElem h, nums_append]; simp [nums]

theorem nums_length (l : List Nat) : (nums l).length ≤ 11 * l.length := by
  induction l with
  | nil => simp [nums]
  | cons x l ih => have := num_length x; simp [nums]; omega

set_option maxRecDepth 100000 in
set_option maxHeartbeats 400000 in
theorem Num_any (w : World) (B : Nat) (F : List Nat) (bs : List UInt8) (ns : List Nat) (v : Value) (hv : Rd w 1 v ns.length (encI ns)) (hd : Off w v F) (hns : ∀ n ∈ ns, n ≤ 1099511627776) (hl : bs.length + 11 * ns.length ≤ 1000000000) (h : Mk w B F bs false) :
    Calls Tryz.prog 87 #[.pointer (some ⟨B, 0, none⟩), v] w fun e w' => e = .returned (.pointer (some ⟨B, 0, none⟩)) ∧ MkTo w B F (bs ++ nums ns) false w' := by
  have HM := Lib.hid h
  have HV := Lib.hid hv
  have HD := Lib.hid hd
  obtain ⟨_, a, cap, rfl, hc1, hc2, _, hc4⟩ := hv
  have HC := Lib.hid hc4
  unfold maxLen at hc2
  generalize hlen : ns.length = len at *
  have HL := Lib.hid hlen
  clear h hd hlen hc4
  go_enter Tryz.func87, Tryz.ntmps87
  go_wp2
  go_loopw [11] (fun i wr => ∃ k : Nat, k ≤ len ∧ i = .int .i64 k ∧ MkTo w B F (bs ++ nums (ns.take k)) false wr) (fun i _ => len - (intOf i).toNat)
  case atStart => exact ⟨0, by omega, rfl, by simpa [nums] using MkTo.refl HM.out⟩
  case round =>
    obtain ⟨k, hk, rfl, hmk⟩ := hrel
    have HK := Lib.hid hmk
    clear hmk
    by_cases hlt : k < len
    · have hk' : k < ns.length := by rw [HL.out]; exact hlt
      obtain ⟨F1, hm1, hs1, hx1⟩ := HK.out
      have HV1 := HV.out.ex hx1 HD.out
      obtain ⟨b, o, rfl, hc⟩ := HV1.at (by omega)
      have hck := hc k _ (by rw [encI_get, List.getElem?_eq_getElem hk']; rfl)
      have hx := hns _ (List.getElem_mem hk')
      have HT := Lib.hid (nums_take ns k hk')
      have hbl := nums_length (ns.take k)
      rw [List.length_take] at hbl
      clear hc
      generalize ns[k] = x at *
      go_wp2_with (first | (go_at_call 86; refine (allow_good _ B F1 _ _ _ (by omega) (by omega) (by omega) hm1).mono ?_; rintro e w' ⟨rfl, rfl⟩) | (go_at_call 112; refine (number_any _ B F1 _ _ _ (by omega) (by simp; omega) hm1).mono ?_; rintro e w' ⟨rfl, hmk2⟩))
      go_roundw
      case rel => exact ⟨k + 1, by omega, by go_num, by rw [HT.out, ← List.append_assoc]; exact MkTo.trans hs1 hx1 hmk2⟩
      case measure => simp [intOf]; omega
    · go_wp2_with fail
      go_ret
      refine ⟨rfl, ?_⟩
      have := HK.out
      rwa [List.take_of_length_le (by rw [HL.out]; omega)] at this

set_option maxRecDepth 100000 in
set_option maxHeartbeats 400000 in
theorem Raw_any (w : World) (B : Nat) (F : List Nat) (bs : List UInt8) (bad : Bool) (l : List UInt8) (v : Value) (hv : RdB w v l) (hl : bs.length + l.length ≤ 1000000000) (h : Mk w B F bs bad) :
    Calls Tryz.prog 88 #[.pointer (some ⟨B, 0, none⟩), v] w fun e w' => e = .returned (.pointer (some ⟨B, 0, none⟩)) ∧ MkTo w B F (bs ++ l) bad w' := by
  obtain ⟨u, rfl, hb, hown⟩ := h
  have HB := Lib.hid hb
  have HV := Lib.hid hv
  have HO := Lib.hid hown
  have c0 : w.cell? ⟨B, 0, none⟩ = some u := by rw [cell_of_block hb]; rfl
  obtain ⟨_, a, cap, rfl, hc1, hc2, _, _⟩ := hv
  clear hb hown
  go_enter Tryz.func88, Tryz.ntmps88
  go_wp2_with (at_builtin; go_loud (refine wpList_app _ rfl _ _ 37 rfl Tryz.underlying37 info_u8 rfl (by decide) u _ _ rfl HO.out _ _ _ rfl HV.out (encB_oneCell l) (by unfold maxLen; omega) (by omega) ?_); intro a' cap' w1 hown' hgrow hsw hnl; have hb1 := block_grown HB.out hgrow (owns_ne HO.out HB.out (by decide)); have d0 : w1.cell? ⟨B, 0, none⟩ = some u := (by rw [cell_of_block hb1]; rfl); have f0 : w1.frozen? ⟨B, 0, none⟩ = false := free_of_block hb1; clear hb1)
  go_ret
  exact ⟨rfl, mk_push HB.out HO.out (Ex.refl [] w) hown' hgrow hsw rfl rfl⟩

/-- bytes.Clone: a row of its own, nil just where nil came. -/
def Cloned (w : World) (v : Value) (l : List UInt8) (e : Ending) (w' : World) : Prop :=
  ∃ a cap, e = .returned (.slice a l.length cap) ∧ Own w' 5 1 (.slice a l.length cap) l.length (encB l) ∧ Ex [] w w' ∧ (∀ k ∈ bk (.slice a l.length cap), w.heap.size ≤ k) ∧ (a = none ↔ v = .slice none 0 0)

set_option maxRecDepth 100000 in
set_option maxHeartbeats 400000 in
theorem Clone_any (w : World) (l : List UInt8) (v : Value) (hv : RdB w v l) (hl : l.length ≤ 1000000000) :
    Calls Tryz.prog 89 #[v] w (Cloned w v l) := by
  have HV := Lib.hid hv
  obtain ⟨hn1, a, cap, rfl, hc1, hc2, hc3, _⟩ := hv
  cases a with
  | none =>
    obtain rfl := hc3 rfl
    obtain rfl : l = [] := List.eq_nil_of_length_eq_zero (by omega)
    have q := Lib.run_eql_slice_nil (P := Tryz.prog) w 37 5 none 0 0 0 0 Tryz.underlying37
    go_enter Tryz.func89, Tryz.ntmps89
    go_wp2_with fail
    go_ret
    exact ⟨none, 0, rfl, World.ownsRow_nil _ _ _ _, Ex.refl _ _, by simp [bk, Value.ownBlock], by simp⟩
  | some ad =>
    clear hc3 hn1
    have q := Lib.run_eql_slice_nil (P := Tryz.prog) w 37 5 (some ad) l.length cap 0 0 Tryz.underlying37
    go_enter Tryz.func89, Tryz.ntmps89
    go_wp2_with (at_builtin; go_loud (refine wpList_app _ rfl _ _ 37 rfl Tryz.underlying37 info_u8 rfl (by decide) (.slice (some ⟨w.heap.size, 0, none⟩) 0 0) 0 _ rfl (own_new w #[] _ 1 0 rfl (by decide)) (.slice (some ad) l.length cap) l.length _ rfl (HV.out.pure ((Ex.refl [] w).alloc _)) (encB_oneCell l) (by unfold maxLen; omega) (by omega) ?_); intro a' cap' w1 hown' hgrow hsw hnl)
    go_ret
    simp only [Nat.zero_add, List.nil_append] at hown' hsw
    refine ⟨a', cap', rfl, hown', ((Ex.refl [] w).alloc _).grown hgrow (by simp [Value.ownBlock]), ?_, ?_⟩
    · intro k hk
      rcases hsw k hk with h | h
      · simp [bk, Value.ownBlock] at h; omega
      · rw [h]; simp
    · simpa using hnl
/-- A slice without elements reads so wherever it leads. -/
theorem Rd.exz {w w' : World} {F : List Nat} {size n : Nat} {v : Value} {xs : List Value} (h : Rd w size v n xs) (hb : Ex F w w') (hF : 0 < n → Off w v F) : Rd w' size v n xs := by
  by_cases hn : 0 < n
  · exact h.ex hb (hF hn)
  · obtain ⟨h1, a, cap, rfl, h3, h4, h5, _⟩ := h
    exact ⟨h1, a, cap, rfl, h3, h4, h5, fun h => absurd h hn⟩

/-- Texts that lie in a slice of slices: the values, and the bytes as which they read. -/
def Texts (w : World) (F : List Nat) (ts : List (Value × List UInt8)) : Prop := ∀ t ∈ ts, RdB w t.1 t.2 ∧ (0 < t.2.length → Off w t.1 F) ∧ t.2.length ≤ 1048576

theorem txts_take (l : List (List UInt8)) (k : Nat) (h : k < l.length) : txts (l.take (k + 1)) = txts (l.take k) ++ txt l[k] := by
  rw [List.take_succ_eq_append_getElem h, txts_append]; simp [txts]

theorem RdB.size {w : World} {v : Value} {l : List UInt8} (h : RdB w v l) : ∃ a cap, v = .slice a l.length cap := ⟨_, _, h.2.choose_spec.choose_spec.1⟩

theorem txts_length (l : List (List UInt8)) : (txts l).length ≤ 11 * l.length + (l.map List.length).sum := by
  induction l with
  | nil => simp [txts]
  | cons x l ih => have := num_length x.length; simp [txts, txt]; omega

theorem sum_take_le (l : List Nat) (k : Nat) : (l.take k).sum ≤ l.sum := by
  induction l generalizing k with
  | nil => simp
  | cons x l ih => cases k with
    | zero => simp
    | succ k => simp; exact ih k

set_option maxRecDepth 100000 in
set_option maxHeartbeats 1000000 in
theorem Text_any (w : World) (B : Nat) (F : List Nat) (bs : List UInt8) (ts : List (Value × List UInt8)) (v : Value) (hv : Rd w 1 v ts.length (ts.map Prod.fst)) (hd : Off w v F) (ht : Texts w F ts) (hl : bs.length + 11 * ts.length + ((ts.map Prod.snd).map List.length).sum ≤ 900000000) (h : Mk w B F bs false) :
    Calls Tryz.prog 53 #[.pointer (some ⟨B, 0, none⟩), v] w fun e w' => e = .returned (.pointer (some ⟨B, 0, none⟩)) ∧ MkTo w B F (bs ++ txts (ts.map Prod.snd)) false w' := by
  have HM := Lib.hid h
  have HV := Lib.hid hv
  have HD := Lib.hid hd
  have HT := Lib.hid ht
  obtain ⟨_, a, cap, rfl, hc1, hc2, _, hc4⟩ := hv
  have HC := Lib.hid hc4
  have HS := Lib.hid hl
  unfold maxLen at hc2
  generalize hlen : ts.length = len at *
  have HL := Lib.hid hlen
  clear h hd hlen hc4 ht hl
  go_enter Tryz.func53, Tryz.ntmps53
  go_wp2
  go_loopw [9] (fun i wr => ∃ k : Nat, k ≤ len ∧ i = .int .i64 k ∧ MkTo w B F (bs ++ txts ((ts.map Prod.snd).take k)) false wr) (fun i _ => len - (intOf i).toNat)
  case atStart => exact ⟨0, by omega, rfl, by simpa [txts] using MkTo.refl HM.out⟩
  case round =>
    obtain ⟨k, hk, rfl, hmk⟩ := hrel
    have HK := Lib.hid hmk
    clear hmk
    by_cases hlt : k < len
    · have hk' : k < ts.length := by rw [HL.out]; exact hlt
      obtain ⟨F1, hm1, hs1, hx1⟩ := HK.out
      have HV1 := HV.out.ex hx1 HD.out
      obtain ⟨b, o, rfl, hc⟩ := HV1.at (by omega)
      have hck := hc k _ (by rw [List.getElem?_map, List.getElem?_eq_getElem hk']; rfl)
      obtain ⟨hr, ho, hb⟩ := HT.out _ (List.getElem_mem hk')
      have HTT := Lib.hid (txts_take (ts.map Prod.snd) k (by simpa using hk'))
      rw [List.getElem_map] at HTT
      have hbl := txts_length ((ts.map Prod.snd).take k)
      have hsum : (((ts.map Prod.snd).take k).map List.length).sum + ts[k].2.length ≤ ((ts.map Prod.snd).map List.length).sum := by
        have h1 := sum_take_le ((ts.map Prod.snd).map List.length) (k + 1)
        rw [List.take_succ_eq_append_getElem (by simpa using hk')] at h1
        simp only [List.map_take, List.getElem_map, List.sum_append, List.sum_cons, List.sum_nil] at h1 ⊢
        omega
      have hS := HS.out
      rw [List.length_take, List.length_map] at hbl
      clear hc
      generalize ts[k] = t at *
      obtain ⟨tv, tl⟩ := t
      dsimp only at hck hr ho hb HTT hsum
      have HR := Lib.hid hr
      have HOF := Lib.hid ho
      obtain ⟨ta, tc, rfl⟩ := hr.size
      clear hr ho
      go_wp2_with (first | (go_at_call 86; refine (allow_good _ B F1 _ _ _ (by omega) (by omega) (by omega) hm1).mono ?_; rintro e w' ⟨rfl, rfl⟩))
      have hx2 := hx1.alloc (Obj.cells #[Value.int IntKind.i64 ↑tl.length] 3)
      refine (Num_any _ B F1 _ [tl.length] _ (rd_new wr #[_] _ 1 1 rfl (by decide)) ?_ (by simpa using (by omega)) (by simp; omega) (hm1.pure ((Ex.refl [] wr).alloc _))).mono ?_
      · intro i hi _ hf
        simp [bk, Value.ownBlock] at hi
        have := hm1.lt i hf
        omega
      rintro e w2 ⟨rfl, F2, hm2, hs2, hx3⟩
      have hx4 := hx2.trans hx3 hs1
      have hs4 := hs1.trans (hs2.trans (Sw.refl w2 F2) hx3.size) hx2.size
      have HR2 := HR.out.exz hx4 HOF.out
      go_wp2_with fail
      refine (Raw_any _ B F2 _ false tl _ HR2 (by have := num_length tl.length; simp [nums]; omega) hm2).mono ?_
      rintro e w3 ⟨rfl, hm3⟩
      go_wp2_with fail
      go_roundw
      case rel => exact ⟨k + 1, by omega, by go_num, by rw [HTT.out]; simpa [nums, txt] using MkTo.trans hs4 hx4 hm3⟩
      case measure => simp [intOf]; omega
    · go_wp2_with fail
      go_ret
      refine ⟨rfl, ?_⟩
      have := HK.out
      rwa [List.take_of_length_le (by rw [List.length_map, HL.out]; omega)] at this
/-- Done of a maker that is not broken: its bytes, in a row of their own. -/
def Doned (w : World) (bs : List UInt8) (e : Ending) (w' : World) : Prop :=
  ∃ a cap, e = .returned (.tuple #[.slice a bs.length cap, .int .i64 0]) ∧ Own w' 5 1 (.slice a bs.length cap) bs.length (encB bs) ∧ Ex [] w w' ∧ (∀ k ∈ bk (.slice a bs.length cap), w.heap.size ≤ k)

set_option maxRecDepth 100000 in
set_option maxHeartbeats 400000 in
theorem Done_good (w : World) (B : Nat) (F : List Nat) (bs : List UInt8) (hl : bs.length ≤ 1000000000) (h : Mk w B F bs false) :
    Calls Tryz.prog 54 #[.pointer (some ⟨B, 0, none⟩)] w (Doned w bs) := by
  obtain ⟨v, hF, hb, hown⟩ := h
  have c0 : w.cell? ⟨B, 0, none⟩ = some v := by rw [cell_of_block hb]; rfl
  have c1 : w.cell? ⟨B, 1, none⟩ = some (.bool false) := by rw [cell_of_block hb]; rfl
  have HR := Lib.hid (rd_of_owns hown)
  clear hb hown hF
  go_enter Tryz.func54, Tryz.ntmps54
  go_wp2_with (go_at_call 89; refine (Clone_any _ bs _ HR.out hl).mono ?_; rintro e w1 ⟨a, cap, rfl, ho, hx, hk, _⟩)
  go_ret2
  exact ⟨a, cap, rfl, ho, hx, hk⟩
end Go.Proofs.YtckmpdplmpgniaaGreat
