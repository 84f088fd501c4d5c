/- Contracts of package code's maker: what it puts. No condition but sizes. -/
import Derived.Test.YtckmpdplmpgniaaGreatProg
import Derived.Test.YtckmpdplmpgniaaGreatMem
import Derived.Test.YtckmpdplmpgniaaGreatPlain
import Derived.ProofKit
import Derived.WalkKit
import Derived.WalkLawsBesides
import Derived.WalkSpells
import Derived.Lib.Hide
import Derived.Deep.QuietTactic
import Derived.BigQuiet
namespace Go.Proofs.YtckmpdplmpgniaaGreat
open Go Go.RowKit

/-- A maker at a block: its blocks, its bytes, and whether it is broken. -/
def Mk (w : World) (B : Nat) (F : List Nat) (bs : List UInt8) (bad : Bool) : Prop :=
  ∃ v, F = B :: bk v ∧ w.heap[B]? = some (.cells #[v, .bool bad] 114 (0, 0)) ∧ Own w 5 1 v bs.length (encB bs)

/-- From one world to another one a maker has come to these bytes, and nothing else has turned. -/
def MkTo (w : World) (B : Nat) (F : List Nat) (bs : List UInt8) (bad : Bool) (w' : World) : Prop :=
  ∃ F', Mk w' B F' bs bad ∧ Sw w F F' ∧ Ex F w w'

theorem Mk.lt {w : World} {B : Nat} {F : List Nat} {bs : List UInt8} {bad : Bool} (h : Mk w B F bs bad) : ∀ k ∈ F, k < w.heap.size := by
  obtain ⟨v, rfl, hb, ho⟩ := h
  intro k hk
  rcases List.mem_cons.1 hk with rfl | hk
  · exact lt_of_block hb
  · exact own_lt ho k hk

theorem Mk.mem {w : World} {B : Nat} {F : List Nat} {bs : List UInt8} {bad : Bool} (h : Mk w B F bs bad) : B ∈ F := by
  obtain ⟨v, rfl, hb, ho⟩ := h
  simp

theorem Mk.ex {w w' : World} {B : Nat} {F G : List Nat} {bs : List UInt8} {bad : Bool} (h : Mk w B F bs bad) (hx : Ex G w w') (hd : ∀ k ∈ F, k ∉ G) : Mk w' B F bs bad := by
  obtain ⟨v, rfl, hb, ho⟩ := h
  exact ⟨v, rfl, hx.obj hb (hd _ (by simp)), own_ex ho hx fun k hk => hd k (by simp [hk])⟩

theorem Mk.pure {w w' : World} {B : Nat} {F : List Nat} {bs : List UInt8} {bad : Bool} (h : Mk w B F bs bad) (hx : Ex [] w w') : Mk w' B F bs bad := h.ex hx fun _ _ => by simp

theorem MkTo.refl {w : World} {B : Nat} {F : List Nat} {bs : List UInt8} {bad : Bool} (h : Mk w B F bs bad) : MkTo w B F bs bad w := ⟨F, h, Sw.refl _ _, Ex.refl _ _⟩

theorem MkTo.trans {w w1 w2 : World} {B : Nat} {F F1 : List Nat} {bs : List UInt8} {bad : Bool} (hs : Sw w F F1) (hx : Ex F w w1) (h : MkTo w1 B F1 bs bad w2) : MkTo w B F bs bad w2 := by
  obtain ⟨F2, hm, hs2, hx2⟩ := h
  exact ⟨F2, hm, hs.trans hs2 hx.size, hx.trans hx2 hs⟩

/-- Behind an append of bytes, stored back. -/
theorem mk_push {wr w0 w1 : World} {B n' : Nat} {v : Value} {bad : Bool} {bs news : List UInt8} {xs : List Value} {a' : Option Addr} {cap' : Nat} (hb : wr.heap[B]? = some (.cells #[v, .bool bad] 114 (0, 0))) (hown : Own wr 5 1 v bs.length (encB bs)) (hx : Ex [] wr w0)
    (hown' : Own w1 5 1 (.slice a' n' cap') n' xs) (hgrow : w0.grownBy w1 v.ownBlock) (hsw : ∀ k ∈ bk (.slice a' n' cap'), k ∈ bk v ∨ k = w0.heap.size) (hn : n' = bs.length + news.length) (he : xs = encB bs ++ encB news) :
    MkTo wr B (B :: bk v) (bs ++ news) bad (w1.setCell ⟨B, 0, none⟩ (.slice a' n' cap')) := by
  subst he
  have hb1 := block_grown (hx.obj hb (by simp)) hgrow (owns_ne hown hb (by decide))
  obtain ⟨s1, s2⟩ := store_row (j := 0) hb1 hown' (by decide)
  refine ⟨_, ⟨_, rfl, s1, ?_⟩, ?_, ?_⟩
  · rw [encB_append, List.length_append, ← hn]; exact s2
  · intro k hk
    rcases List.mem_cons.1 hk with rfl | hk
    · exact .inl (by simp)
    · rcases hsw k hk with h | h
      · exact .inl (by simp [h])
      · exact .inr (by rw [h]; exact hx.size)
  · exact (((hx.of_nil (F := B :: bk v))).grown hgrow (fun k hk => .inl (by simp [bk, hk]))).setCell (.inl (by simp)) _

theorem info_u8 : (Tryz.prog.info? 5).map (fun i => (i.zero, i.size, i.bytes)) = some (some (.int .u8 0), 1, 1) := by kernel_rfl

set_option maxHeartbeats 400000 in
theorem allow_good (w : World) (B : Nat) (F : List Nat) (bs : List UInt8) (n m : Int) (h0 : 0 ≤ n) (hn : n ≤ m) (hm : m ≤ 9223372036854775807) (h : Mk w B F bs false) :
    Calls Tryz.prog 86 #[.pointer (some ⟨B, 0, none⟩), .int .i64 n, .int .i64 m] w fun e w' => e = .returned (.bool true) ∧ w = w' := by
  obtain ⟨v, hB, hb, hown⟩ := h
  have c1 : w.cell? ⟨B, 1, none⟩ = some (.bool false) := by rw [cell_of_block hb]; rfl
  clear hb hown hB
  go_enter Tryz.func86, Tryz.ntmps86
  go_wp2
  go_ret
  exact ⟨rfl, rfl⟩

set_option maxRecDepth 100000 in
set_option maxHeartbeats 400000 in
theorem number_any (w : World) (B : Nat) (F : List Nat) (bs : List UInt8) (bad : Bool) (n : Nat) (hn : n < 18446744073709551616) (hl : bs.length ≤ 1000000000) (h : Mk w B F bs bad) :
    Calls Tryz.prog 112 #[.pointer (some ⟨B, 0, none⟩), .int .u64 n] w fun e w' => e = .returned (.tuple #[]) ∧ MkTo w B F (bs ++ num n) bad w' := by
  have HM := Lib.hid h
  clear h
  go_enter Tryz.func112, Tryz.ntmps112
  go_wp2
  go_loopw [1] (fun i wr => ∃ (m : Nat) (pre : List UInt8), i = .int .u64 m ∧ m < 18446744073709551616 ∧ Hid (num n = pre ++ num m ∧ pre.length ≤ 11) ∧ MkTo w B F (bs ++ pre) bad wr) (fun i _ => (intOf i).toNat)
  case atStart => exact ⟨n, [], rfl, hn, ⟨rfl, by simp⟩, by rw [List.append_nil]; exact MkTo.refl HM.out⟩
  case round =>
    obtain ⟨m, pre, rfl, hm, hpre, F1, ⟨v, hF1, hb, hown⟩, hs1, hx1⟩ := hrel
    have HS := Lib.hid hs1
    have HF := Lib.hid hF1
    have HX := Lib.hid hx1
    clear hs1 hF1 hx1
    have HO := Lib.hid hown
    rw [List.length_append] at hown
    have HB := Lib.hid hb
    have c0 : wr.cell? ⟨B, 0, none⟩ = some v := by rw [cell_of_block hb]; rfl
    clear hb
    have hpl := hpre.out.2
    by_cases hlt : 128 ≤ m
    all_goals go_wp2_with (at_builtin; go_loud (refine wpList_app _ rfl _ _ 37 rfl Tryz.underlying37 info_u8 rfl (by decide) v _ _ rfl (hown.alloc _) _ 1 [_] rfl (rd_new wr #[_] _ 1 1 rfl (by decide)) (by intro u hu; simp at hu; subst hu; rfl) (by unfold maxLen; simp; omega) (by simp; omega) ?_); intro a' cap' w1 hown' hgrow hsw hnl; have hb1 := block_grown (block_alloc HB.out) hgrow (owns_ne hown HB.out (by decide)); have d0 : w1.cell? ⟨B, 0, none⟩ = some v := (by rw [cell_of_block hb1]; rfl); have f0 : w1.frozen? ⟨B, 0, none⟩ = false := free_of_block hb1; clear hb1)
    · go_roundw
      case rel =>
        have hm2 := hpre.out
        have hlen := num_length m
        refine ⟨m / 128, pre ++ [UInt8.ofNat (m % 128 + 128)], by go_num, by omega, ⟨?_, ?_⟩, ?_⟩
        · rw [hm2.1, num_step m hlt hm]; simp
        · have := hm2.2
          have h3 := congrArg List.length hm2.1
          rw [num_step m hlt hm] at h3
          have := num_length n
          have := num_length (m / 128)
          simp at h3 ⊢
          omega
        · have hf := HF.out
          subst hf
          rw [← List.append_assoc]
          exact MkTo.trans HS.out HX.out (mk_push HB.out HO.out ((Ex.refl [] wr).alloc _) hown' hgrow hsw (by simp) (by rw [encB_one, ← bits_or128]))
      case measure => simp [intOf]; omega
    · go_end0
      have hm2 := hpre.out
      have hf := HF.out
      subst hf
      refine ⟨rfl, ?_⟩
      rw [hm2.1, num_small m (by omega), ← List.append_assoc]
      exact MkTo.trans HS.out HX.out (mk_push HB.out HO.out ((Ex.refl [] wr).alloc _) hown' hgrow hsw (by simp) (by rw [encB_one, u8_small m (by omega)]))
end Go.Proofs.YtckmpdplmpgniaaGreat
