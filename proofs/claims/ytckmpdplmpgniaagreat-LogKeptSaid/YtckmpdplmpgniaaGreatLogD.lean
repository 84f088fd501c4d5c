/- Contracts of package log: texts, and a head, read out of bytes. No condition but ranges. -/
import Derived.Test.YtckmpdplmpgniaaGreatLogC
import Derived.Test.YtckmpdplmpgniaaGreatCodeF
import Derived.Test.YtckmpdplmpgniaaGreatDevE
namespace Go.Proofs.YtckmpdplmpgniaaGreat
open Go Go.RowKit

/-- Slices that lie in a slice of the call's own, each of which reads as bytes; all of it lies at or beyond a block. -/
def Lst (w : World) (base : Nat) (v : Value) (ts : List (Value × List UInt8)) : Prop :=
  Own w 37 1 v ts.length (ts.map Prod.fst) ∧ (∀ k ∈ bk v, base ≤ k) ∧ ∀ t ∈ ts, Own w 5 1 t.1 t.2.length (encB t.2) ∧ (∀ k ∈ bk t.1, base ≤ k)

theorem ctext_txt (t : List UInt8) (r : List UInt8) (ht : t.length ≤ 1099511627776) : ctext 1099511627776 (txt t ++ r) = .ok (t, r) := by
  unfold ctext txt
  rw [List.append_assoc, cnum_num 1099511627776 t.length (t ++ r) ht (by omega)]
  simp only []
  rw [if_neg (by omega)]
  have hd : (num t.length ++ (t ++ r)).drop (num t.length).length = t ++ r := by simp
  rw [hd, if_pos (by simp)]
  simp

theorem txt_pos (t : List UInt8) : 0 < (txt t).length := by
  have := (num_length t.length).1
  simp [txt]
  omega

theorem info_ub : (Tryz.prog.info? 37).map (fun i => (i.zero, i.size, i.bytes)) = some (some (.slice none 0 0), 1, 24) := by kernel_rfl

set_option maxRecDepth 100000 in
set_option maxHeartbeats 4000000 in
theorem texts_good (w : World) (l : List UInt8) (v : Value) (hv : RdB w v l) (recs : List (List UInt8)) (hl : l = txts recs) (hn : l.length ≤ 1000000) (hr : recs.length ≤ 1000000) (ht : ∀ t ∈ recs, t.length ≤ 1000000) :
    Calls Tryz.prog 43 #[v] w fun x w' => ∃ u ts, x = .returned (.tuple #[u, .bool true]) ∧ ts.map Prod.snd = recs ∧ Lst w' w.heap.size u ts ∧ Ex [] w w' := by
  subst hl
  have HV := Lib.hid hv
  have HT := Lib.hid ht
  clear hv ht
  go_enter Tryz.func43, Tryz.ntmps43
  go_wp2_with fail
  refine (Over_any w _ v HV.out (by omega)).mono ?_
  rintro x w1 ⟨B, F, rfl, hcu, hfr, hx1, hup⟩
  have HC := Lib.hid (And.intro hcu (And.intro hfr (And.intro hx1 hup)))
  clear hcu hfr hx1 hup
  go_wp2_with fail
  go_loopw [2] (fun u wr => ∃ k : Nat, k ≤ recs.length ∧ (∃ a cap, u = .slice a k cap) ∧ Hid (∃ ts F', ts.map Prod.snd = recs.take k ∧ Lst wr w.heap.size u ts ∧ Cu wr B F' (txts (recs.drop k)) 0 ∧ (∀ j ∈ F', j ∈ F) ∧ (∀ j ∈ F, j ∉ bk u) ∧ Ex [] w wr ∧ w1.heap.size ≤ wr.heap.size)) (fun u _ => match u with | .slice _ n _ => recs.length - n | _ => 0)
  case atStart => exact ⟨0, by omega, ⟨none, 0, rfl⟩, [], F, by simp, ⟨World.ownsRow_nil _ _ _ _, by simp [bk, Value.ownBlock], by simp⟩, by simpa using HC.out.1, fun _ h => h, by simp [bk, Value.ownBlock], HC.out.2.2.1, Nat.le_refl _⟩
  case round =>
    obtain ⟨k, hk, ⟨a, cap, rfl⟩, hown⟩ := hrel
    obtain ⟨ts, F', hts, hlst, hcu, hF', hap, hxw, hsz⟩ := hown.out
    have htl : ts.length = k := by have := congrArg List.length hts; simp at this; omega
    have HH := Lib.hid (And.intro hts (And.intro hlst (And.intro hcu (And.intro hF' (And.intro hap (And.intro hxw hsz))))))
    have hown0 := hlst.1
    rw [htl] at hown0
    have HOWN := Lib.hid hown0
    clear hts hlst hcu hF' hxw hown hap hsz hown0
    by_cases hlt : k < recs.length
    · have hdrop : txts (recs.drop k) = txt recs[k] ++ txts (recs.drop (k + 1)) := by rw [List.drop_eq_getElem_cons hlt]; rfl
      have hpos : 0 < (txts (recs.drop k)).length := by rw [hdrop, List.length_append]; have := txt_pos recs[k]; omega
      have htx : ctext 1099511627776 (txts (recs.drop k)) = .ok (recs[k], txts (recs.drop (k + 1))) := by rw [hdrop]; exact ctext_txt _ _ (by have := HT.out _ (List.getElem_mem hlt); omega)
      have HTX := Lib.hid htx
      have HTK := Lib.hid (List.take_succ_eq_append_getElem hlt)
      have hk6 := HT.out _ (List.getElem_mem hlt)
      clear htx hdrop
      generalize recs[k] = t at *
      go_wp2_with fail
      refine (Left_any wr B F' _ 0 HH.out.2.2.1).mono ?_
      rintro x w2 ⟨rfl, rfl⟩
      go_wp2_with fail
      refine (cText_any wr B F' _ 0 1099511627776 (by decide) (by decide) HH.out.2.2.1).mono ?_
      intro x w2 hc
      unfold CText at hc
      rw [HTX.out] at hc
      obtain ⟨a1, cap1, rfl, ho1, hf1, hcu1⟩ := hc
      obtain ⟨F2, hcu2, hs2, hx2⟩ := hcu1
      have hBb : ∃ cs, wr.heap[B]? = some (.cells cs 189 (0, 0)) := by
        obtain ⟨_, _, hb, _⟩ := HH.out.2.2.1
        exact ⟨_, hb⟩
      obtain ⟨csB, hBb⟩ := hBb
      have hu2 := own_ex HOWN.out hx2 (fun j hj hm => by
        have := owns_ne HOWN.out hBb (by decide)
        simp [bk] at hj hm
        subst hm
        exact this hj.symm)
      have HO := Lib.hid (And.intro ho1 (And.intro hf1 (And.intro hcu2 (And.intro hs2 (And.intro hx2 (And.intro hBb hu2))))))
      clear ho1 hf1 hcu2 hs2 hx2 hBb hu2
      go_wp2_with (at_builtin; go_loud (refine wpList_app _ rfl _ _ 38 rfl Tryz.underlying38 info_ub rfl (by decide) (.slice a k cap) k _ rfl (HO.out.2.2.2.2.2.2.alloc _) (.slice (some ⟨w2.heap.size, 0, none⟩) 1 1) 1 [.slice a1 t.length cap1] rfl (rd_new w2 #[.slice a1 t.length cap1] _ 1 1 rfl (by decide)) (by simp [Value.oneCell']) (by unfold maxLen; omega) (by omega) ?_); intro a' cap' w3 hown' hgrow hsw hnl)
      go_roundw
      case rel =>
        obtain ⟨hts, hlst, hcu, hF', hap, hxw, hsz⟩ := HH.out
        obtain ⟨ho1, hf1, hcu2, hs2, hx2, hBb, hu2⟩ := HO.out
        have hg : Ex (bk (.slice a k cap)) w2 w3 := ((Ex.refl (bk (.slice a k cap)) w2).alloc _).grown hgrow (fun j hj => .inl (by simp [bk, hj]))
        have hBF : B ∈ F' := by
          obtain ⟨_, rfl, _⟩ := hcu
          simp
        refine ⟨k + 1, by omega, ⟨a', cap', rfl⟩, ts ++ [(.slice a1 t.length cap1, t)], F2, ?_, ⟨?_, ?_, ?_⟩, ?_, fun j hj => hF' j (hs2 j hj), ?_, ?_, ?_⟩
        · rw [List.map_append, hts, HTK.out]; rfl
        · have e : (ts ++ [(Value.slice a1 t.length cap1, t)]).length = k + 1 := by simp [htl]
          rw [e, List.map_append]
          exact hown'
        · intro j hj
          rcases hsw j hj with h | h
          · exact hlst.2.1 j h
          · rw [h]
            have := hxw.size
            have := hx2.size
            simp
            omega
        · intro y hy
          rcases List.mem_append.1 hy with hy | hy
          · have hy2 := own_ex (hlst.2.2 y hy).1 hx2 (fun j hj hm => by
              have := owns_ne (hlst.2.2 y hy).1 hBb (by decide)
              simp [bk] at hj hm
              subst hm
              exact this hj.symm)
            exact ⟨own_ex hy2 hg (own_apart hy2 hu2 (by decide)), (hlst.2.2 y hy).2⟩
          · simp only [List.mem_singleton] at hy
            subst hy
            exact ⟨own_ex ho1 hg (own_apart ho1 hu2 (by decide)), fun j hj => Nat.le_trans hxw.size (hf1 j hj)⟩
        · exact hcu2.ex hg fun j hj => hap j (hF' j (hs2 j hj))
        · intro j hj hm
          rcases hsw j hm with h | h
          · exact hap j hj h
          · have := HC.out.2.2.2 j hj
            have := hx2.size
            simp at h
            omega
        · refine (hxw.off hx2 ?_).off hg hlst.2.1
          intro j hj
          simp at hj
          subst hj
          exact HC.out.2.1 _ (hF' _ hBF)
        · have := hx2.size
          have := hg.size
          omega
      case measure => simp; omega
    · obtain rfl : k = recs.length := by omega
      have hnil : recs.drop recs.length = [] := List.drop_length
      have hh := HH.out
      rw [hnil, List.take_length] at hh
      have HG := Lib.hid hh
      clear hh hnil
      go_wp2_with fail
      refine (Left_any wr B F' _ 0 HG.out.2.2.1).mono ?_
      rintro x w2 ⟨rfl, rfl⟩
      go_wp2_with fail
      refine (End_any wr B F' _ 0 HG.out.2.2.1).mono ?_
      rintro x w2 ⟨rfl, rfl⟩
      go_wp2_with fail
      go_ret2
      exact ⟨_, ts, rfl, HG.out.1, HG.out.2.1, HG.out.2.2.2.2.2.1⟩
end Go.Proofs.YtckmpdplmpgniaaGreat
