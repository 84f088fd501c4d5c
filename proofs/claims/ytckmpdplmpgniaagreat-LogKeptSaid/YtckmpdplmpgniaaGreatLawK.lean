/- The law LogKept: its walk. No condition but ranges. -/
import Derived.Test.YtckmpdplmpgniaaGreatLawI
namespace Go.Proofs.YtckmpdplmpgniaaGreat
open Go Go.RowKit

/-- True, and nothing of what there was has turned. -/
def Truth (w : World) (x : Ending) (w' : World) : Prop := x = .returned (.bool true) ∧ Ex [] w w'

set_option maxRecDepth 100000 in
set_option maxHeartbeats 8000000 in
/-- A shape that is none. -/
theorem kept_not (w : World) (L A Da : Int) (lv : Value) (ds : List DeedP) (hL : -9223372036854775808 ≤ L ∧ L ≤ 9223372036854775807) (hA : -9223372036854775808 ≤ A ∧ A ≤ 9223372036854775807) (hD : -9223372036854775808 ≤ Da ∧ Da ≤ 9223372036854775807) (hd : Deeds w lv ds) (hR : rightS L A Da = false) :
    Calls Tryz.prog 3 #[.agg #[.int .i64 L, .int .i64 A, .int .i64 Da], lv] w (Truth w) := by
  have HD := Lib.hid hd
  have HR := Lib.hid hR
  clear hd hR
  go_enter Tryz.func3, Tryz.ntmps3
  go_wp2_with fail
  have hb0 := heap_alloc_new w (.cells #[.int .i64 L, .int .i64 A, .int .i64 Da] 23)
  have H0 := Lib.hid (And.intro ((Ex.refl [] w).alloc (.cells #[.int .i64 L, .int .i64 A, .int .i64 Da] 23)) hb0)
  clear hb0
  refine (awake_true _).mono ?_
  generalize w.alloc (.cells #[.int .i64 L, .int .i64 A, .int .i64 Da] 23) = w0 at *
  rintro e w1 ⟨rfl, hx1⟩
  have hb1 := hx1.obj H0.out.2 (by simp)
  have q0 : w1.cell? ⟨w.heap.size, 0, none⟩ = some (.int .i64 L) := (cell_of_block hb1).trans rfl
  have q1 : w1.cell? ⟨w.heap.size, 1, none⟩ = some (.int .i64 A) := (cell_of_block hb1).trans rfl
  have q2 : w1.cell? ⟨w.heap.size, 2, none⟩ = some (.int .i64 Da) := (cell_of_block hb1).trans rfl
  have H1 := Lib.hid (And.intro (H0.out.1.pure hx1) hb1)
  clear hx1 hb1
  go_wp2_with fail
  refine (great_any w1 L A Da _ ds (HD.out.pure H1.out.1)).mono ?_
  rintro e w2 ⟨b, rfl, hx2, hgr⟩
  have hb2 := hx2.obj H1.out.2 (by simp)
  have r0 : w2.cell? ⟨w.heap.size, 0, none⟩ = some (.int .i64 L) := (cell_of_block hb2).trans rfl
  have r1 : w2.cell? ⟨w.heap.size, 1, none⟩ = some (.int .i64 A) := (cell_of_block hb2).trans rfl
  have r2 : w2.cell? ⟨w.heap.size, 2, none⟩ = some (.int .i64 Da) := (cell_of_block hb2).trans rfl
  have H2 := Lib.hid (H1.out.1.pure hx2)
  clear hx2 hb2 q0 q1 q2 hgr
  cases b with
  | true =>
    go_wp2_with fail
    go_ret
    exact ⟨rfl, H2.out⟩
  | false =>
    go_wp2_with fail
    refine (Right_any w2 L A Da hL hA hD).mono ?_
    rw [HR.out]
    rintro e w3 ⟨rfl, hx3⟩
    have H3 := Lib.hid (H2.out.pure hx3)
    clear hx3 r0 r1 r2
    go_wp2_with fail
    go_ret
    exact ⟨rfl, H3.out⟩

set_option maxRecDepth 100000 in
set_option maxHeartbeats 16000000 in
theorem kept_ok (w : World) (L A Da : Nat) (lv : Value) (ds : List DeedP) (hs : shapeOk L A Da) (hd : Deeds w lv ds) :
    Calls Tryz.prog 3 #[.agg #[.int .i64 L, .int .i64 A, .int .i64 Da], lv] w (Truth w) := by
  have HD := Lib.hid hd
  have HS := Lib.hid hs
  have HSS := Lib.hid (show 1 ≤ sectorsS L A Da ∧ sectorsS L A Da ≤ 8192 by obtain ⟨_, _, _, h4⟩ := hs; unfold sectorsS; omega)
  obtain ⟨_, la, lc, rfl, hlc1, hlc2, _⟩ := hd.1
  obtain ⟨⟨hL1, hL2⟩, ⟨hA1, hA2⟩, ⟨hD1, hD2⟩, hT⟩ := hs
  clear hd
  go_enter Tryz.func3, Tryz.ntmps3
  go_wp2_with fail
  have hb0 := heap_alloc_new w (.cells #[.int .i64 L, .int .i64 A, .int .i64 Da] 23)
  have H0 := Lib.hid (And.intro ((Ex.refl [] w).alloc (.cells #[.int .i64 L, .int .i64 A, .int .i64 Da] 23)) hb0)
  clear hb0
  refine (awake_true _).mono ?_
  generalize w.alloc (.cells #[.int .i64 L, .int .i64 A, .int .i64 Da] 23) = w0 at *
  rintro e w1 ⟨rfl, hx1⟩
  have hb1 := hx1.obj H0.out.2 (by simp)
  have q0 : w1.cell? ⟨w.heap.size, 0, none⟩ = some (.int .i64 L) := (cell_of_block hb1).trans rfl
  have q1 : w1.cell? ⟨w.heap.size, 1, none⟩ = some (.int .i64 A) := (cell_of_block hb1).trans rfl
  have q2 : w1.cell? ⟨w.heap.size, 2, none⟩ = some (.int .i64 Da) := (cell_of_block hb1).trans rfl
  have H1 := Lib.hid (And.intro (H0.out.1.pure hx1) hb1)
  clear hx1 hb1
  go_wp2_with fail
  refine (great_any w1 L A Da _ ds (HD.out.pure H1.out.1)).mono ?_
  rintro e w2 ⟨b, rfl, hx2, hgr⟩
  have hb2 := hx2.obj H1.out.2 (by simp)
  have r0 : w2.cell? ⟨w.heap.size, 0, none⟩ = some (.int .i64 L) := (cell_of_block hb2).trans rfl
  have r1 : w2.cell? ⟨w.heap.size, 1, none⟩ = some (.int .i64 A) := (cell_of_block hb2).trans rfl
  have r2 : w2.cell? ⟨w.heap.size, 2, none⟩ = some (.int .i64 Da) := (cell_of_block hb2).trans rfl
  have H2 := Lib.hid (And.intro (H1.out.1.pure hx2) hb2)
  clear hx2 hb2 q0 q1 q2
  cases b with
  | true =>
    clear hgr
    go_wp2_with fail
    go_ret
    exact ⟨rfl, H2.out.1⟩
  | false =>
    have HG := Lib.hid (hgr rfl)
    clear hgr
    go_wp2_with fail
    refine (Right_any w2 L A Da (by omega) (by omega) (by omega)).mono ?_
    rw [right_ok HS.out]
    rintro e w3 ⟨rfl, hx3⟩
    have hb3 := hx3.obj H2.out.2 (by simp)
    have s0 : w3.cell? ⟨w.heap.size, 0, none⟩ = some (.int .i64 L) := (cell_of_block hb3).trans rfl
    have s1 : w3.cell? ⟨w.heap.size, 1, none⟩ = some (.int .i64 A) := (cell_of_block hb3).trans rfl
    have s2 : w3.cell? ⟨w.heap.size, 2, none⟩ = some (.int .i64 Da) := (cell_of_block hb3).trans rfl
    have H3 := Lib.hid (And.intro (H2.out.1.pure hx3) hb3)
    clear hx3 hb3 r0 r1 r2
    go_wp2_with fail
    refine (Sectors_any w3 L A Da HS.out).mono ?_
    rintro e w4 ⟨rfl, hx4⟩
    have hb4 := hx4.obj H3.out.2 (by simp)
    have H4 := Lib.hid (And.intro (H3.out.1.pure hx4) hb4)
    clear hx4 hb4 s0 s1 s2
    go_wp2_with fail
    refine (New_good w4 (sectorsS L A Da) HSS.out.1 HSS.out.2).mono ?_
    rintro e w5 ⟨D, F5, rfl, hd5, hF5, hx5⟩
    have hb5 := hx5.obj H4.out.2 (by simp)
    have t0 : w5.cell? ⟨w.heap.size, 0, none⟩ = some (.int .i64 L) := (cell_of_block hb5).trans rfl
    have t1 : w5.cell? ⟨w.heap.size, 1, none⟩ = some (.int .i64 A) := (cell_of_block hb5).trans rfl
    have t2 : w5.cell? ⟨w.heap.size, 2, none⟩ = some (.int .i64 Da) := (cell_of_block hb5).trans rfl
    have H5 := Lib.hid (And.intro (H4.out.1.pure hx5) (And.intro hb5 (And.intro hd5 (And.intro hF5 (lt_of_block H4.out.2)))))
    clear hx5 hb5 hd5 hF5
    go_wp2_with fail
    have HF := Lib.hid (format_st (n := sectorsS L A Da) (L := L) (A := A) (Da := Da) (Nat.le_refl _))
    refine (Format_good w5 D F5 (newDv (sectorsS L A Da)) L A Da HS.out H5.out.2.2.1 (by simp [newDv]) (by simp [newDv])).mono ?_
    rw [HF.out.1]
    rintro e w6 ⟨rfl, F6, hd6, hs6, hx6⟩
    have hni5 : w.heap.size ∉ F5 := fun hm => by have h0 := H5.out.2.2.2.1 _ hm; have h1 := H5.out.2.2.2.2; omega
    have hb6 := hx6.obj H5.out.2.1 hni5
    have hF6 : ∀ k ∈ F6, w.heap.size < k := fun k hk => by
      have h1 := H5.out.2.2.2.2
      rcases hs6 k hk with h | h
      · have h0 := H5.out.2.2.2.1 _ h; omega
      · have h2 := lt_of_block H5.out.2.1; omega
    have hx06 : Ex [] w w6 := H5.out.1.off hx6 (fun k hk => by have h0 := H5.out.2.2.2.1 _ hk; have h1 := H5.out.2.2.2.2; omega)
    have u0 : w6.cell? ⟨w.heap.size, 0, none⟩ = some (.int .i64 L) := (cell_of_block hb6).trans rfl
    have u1 : w6.cell? ⟨w.heap.size, 1, none⟩ = some (.int .i64 A) := (cell_of_block hb6).trans rfl
    have u2 : w6.cell? ⟨w.heap.size, 2, none⟩ = some (.int .i64 Da) := (cell_of_block hb6).trans rfl
    have H6 := Lib.hid (And.intro hx06 (And.intro hb6 (And.intro hd6 hF6)))
    clear hx06 hb6 hd6 hF6 hs6 hx6 hni5 t0 t1 t2
    go_wp2_with fail
    refine (Open_good w6 D F6 (newDv (sectorsS L A Da)).format.2 L A Da ⟨0, 0, 0, 1⟩ [] HS.out H6.out.2.2.1 HF.out.2.1 (by rw [HF.out.2.2.1]; simp) HF.out.2.2.2.2.len (HF.out.2.2.2.2.shows HS.out HF.out.2.2.1).1).mono ?_
    rintro e w7 ⟨J, rfl, hj7, hJ7, hx7⟩
    have hb7 := hx7.obj H6.out.2.1 (by simp)
    have H7 := Lib.hid (And.intro (H6.out.1.pure hx7) (And.intro hb7 (And.intro (H6.out.2.2.1.pure hx7) (And.intro hj7 (And.intro hJ7 H6.out.2.2.1.lt)))))
    clear hx7 hb7 hj7 hJ7 u0 u1 u2
    go_wp2_with fail
    have hbn := heap_alloc_new w7 (.cells #[.slice none 0 0, .slice none 0 0] 40)
    have hx8 : Ex [] w7 (w7.alloc (.cells #[.slice none 0 0, .slice none 0 0] 40)) := (Ex.refl [] w7).alloc _
    have hInv : Inv w (w7.alloc (.cells #[.slice none 0 0, .slice none 0 0] 40)) w7.heap.size J D L A Da F6 (newDv (sectorsS L A Da)).format.2 ⟨0, 0, 0, 1⟩ [] [] (.slice none 0 0) (.slice none 0 0) := by
      have hlt7 := lt_of_block H7.out.2.1
      have hJlt := lt_of_block H7.out.2.2.2.1
      have h6 := lt_of_block H6.out.2.1
      have hJF : J ∉ F6 := fun hm => by have h0 := H7.out.2.2.2.2.2 _ hm; have h1 := H7.out.2.2.2.2.1; omega
      refine ⟨⟨H7.out.1.pure hx8, hx8.obj H7.out.2.1 (by simp), hbn, ?_, hlt7, ?_⟩, (show JnAt _ J D _ L A Da false from H7.out.2.2.2.1.pure hx8 (by simp)), H7.out.2.2.1.pure hx8, HF.out.2.1, HF.out.2.2.1, HF.out.2.2.2.2, hJF⟩
      · intro k hk
        rcases List.mem_cons.1 hk with rfl | hk
        · have h1 := H7.out.2.2.2.2.1
          exact ⟨by omega, by omega, by omega⟩
        · have h0 := H7.out.2.2.1.lt k hk
          have h1 := H6.out.2.2.2 k hk
          exact ⟨by omega, by omega, by omega⟩
      · exact ⟨⟨⟨rfl, none, 0, rfl, Nat.le_refl _, by decide, fun _ => rfl, fun h => by simp at h⟩, fun h => by simp at h⟩, [], rfl, ⟨rfl, none, 0, rfl, Nat.le_refl _, by decide, fun _ => rfl, fun h => by simp at h⟩, fun h => by simp at h, by simp⟩
    have HI := Lib.hid hInv
    have HNB : Hid (w.heap.size < w7.heap.size) := lt_of_block H7.out.2.1
    clear hInv hbn hx8
    generalize w7.alloc (.cells #[.slice none 0 0, .slice none 0 0] 40) = w8 at *
    generalize w7.heap.size = nb at *
    go_loopw [7, 10] (fun jv i wr => ∃ (k J : Nat) (F : List Nat) (d : Dv) (h : Hd) (recs : List (List UInt8)) (area : List UInt8) (av rv : Value), k ≤ ds.length ∧ i = .int .i64 k ∧ jv = .pointer (some ⟨J, 0, none⟩) ∧ Hid (Inv w wr nb J D L A Da F d h recs area av rv ∧ h.round ≤ k + 1)) (fun _ i _ => ds.length - (intOf i).toNat)
    case atStart => exact ⟨0, J, _, _, _, _, _, _, _, Nat.zero_le _, rfl, rfl, HI.out, Nat.le_refl _⟩
    case round =>
      obtain ⟨k, J, F, d, h, recs, area, av, rv, hk, rfl, rfl, HV⟩ := hrel
      have hHK : Hid (k ≤ 60) := Nat.le_trans hk HG.out.1
      by_cases hlt : k < ds.length
      · obtain ⟨lb, lo, rfl, d0, d1, d2, d3⟩ := (HD.out.pure HV.out.1.1.1).at k hlt
        have hdk := (HD.out.2 ds[k] (List.getElem_mem hlt))
        have hdl := HG.out.2 ds[k] (List.getElem_mem hlt)
        generalize ds[k] = dx at *
        obtain ⟨_, va, vc, hv, _⟩ := hdk.1
        rw [hv] at d3
        have HDK := Lib.hid (And.intro hdk (And.intro hdl hv))
        have e1 : decide ((k : Int) < (ds.length : Int)) = true := by simpa using hlt
        have e2 : (k : Int) < (ds.length : Int) := by omega
        have HLT := Lib.hid hlt
        have hk6 : k < 60 := by have := HG.out.1; omega
        clear hdk hdl hv hlt
        go_wp2_with fail
        have hbx := heap_alloc_new wr (.cells #[.int .i64 dx.what, .int .i64 dx.n, .int .i64 dx.bit, .slice va dx.b.length vc] 42)
        have hxa : Ex [] wr (wr.alloc (.cells #[.int .i64 dx.what, .int .i64 dx.n, .int .i64 dx.bit, .slice va dx.b.length vc] 42)) := (Ex.refl [] wr).alloc _
        have HA := Lib.hid (And.intro hxa hbx)
        have HXB : Hid (wr.heap.size = wr.heap.size) := rfl
        clear hxa hbx d0 d1 d2 d3 e2
        refine (Pick_any _ dx.what HDK.out.1.2.2.1).mono ?_
        rintro e wa ⟨rfl, hwa⟩
        have HA1 : Hid (Ex [] wr wa ∧ wa.heap[wr.heap.size]? = some (.cells #[.int .i64 dx.what, .int .i64 dx.n, .int .i64 dx.bit, .slice va dx.b.length vc] 42 (0, 0))) := by rw [← hwa]; exact HA.out
        clear hwa HA
        have b0 : wa.cell? ⟨wr.heap.size, 0, none⟩ = some (.int .i64 dx.what) := (cell_of_block HA1.out.2).trans rfl
        have b1 : wa.cell? ⟨wr.heap.size, 1, none⟩ = some (.int .i64 dx.n) := (cell_of_block HA1.out.2).trans rfl
        have b2 : wa.cell? ⟨wr.heap.size, 2, none⟩ = some (.int .i64 dx.bit) := (cell_of_block HA1.out.2).trans rfl
        have b3 : wa.cell? ⟨wr.heap.size, 3, none⟩ = some (.slice va dx.b.length vc) := (cell_of_block HA1.out.2).trans rfl
        have HVA : Hid (Inv w wa nb J D L A Da F d h recs area av rv) := ⟨HV.out.1.1.pure HA1.out.1, HV.out.1.2.pure HA1.out.1⟩
        by_cases hp3 : pick dx.what 9 = 3
        · have e3 : (pick dx.what 9 == 3) = true := by rw [hp3]; rfl
          clear hp3
          go_wp2_with fail
          refine (Fuse_any wa D F d dx.n HDK.out.1.2.2.2.1.2 HVA.out.2.2.1).mono ?_
          rintro e wb ⟨⟨ee, rfl⟩, F1, hd1, hs1, hx1⟩
          have hN : Hid (Inv w wb nb J D L A Da F1 (d.setFuse dx.n) h recs area av rv) := by
            obtain ⟨hbs, hjn, hdv, hup, hpe, hst, hJF⟩ := HVA.out
            have hJF1 : J ∉ F1 := fun hm => by
              rcases hs1 J hm with h | h
              · exact hJF h
              · have := lt_of_block hjn; omega
            have ek : (d.setFuse dx.n).kept = d.kept := by unfold Dv.setFuse; split <;> rfl
            have ep : (d.setFuse dx.n).pend = d.pend := by unfold Dv.setFuse; split <;> rfl
            have ed : (d.setFuse dx.n).down = d.down := by unfold Dv.setFuse; split <;> rfl
            refine ⟨hbs.ex hx1 (fun k hk => .inl (by simp [hk])) (fun k hk => ?_), (show JnAt wb J D h L A Da false from hjn.pure hx1 hJF), hd1, by rw [ed]; exact hup, by rw [ep]; exact hpe, by rw [ek]; exact hst, hJF1⟩
            rcases List.mem_cons.1 hk with rfl | hk
            · exact .inl (by simp)
            · exact (hs1 k hk).imp (fun h => by simp [h]) id
          clear hd1 hs1 hx1 b0 b1 b2 b3
          go_wp2_with fail
          go_roundw
          case rel => exact ⟨k + 1, J, F1, _, h, recs, area, av, rv, by have := HLT.out; omega, by go_num, rfl, hN.out, by have := HV.out.2; omega⟩
          case measure => have := HLT.out; simp [intOf]; omega
        · have e3 : (pick dx.what 9 == 3) = false := by simpa using hp3
          clear hp3
          have n0 := HVA.out.1.cells.2.2.2.1
          have n1 := HVA.out.1.cells.2.2.2.2.1
          go_wp2_with fail
          have hxw : Ex [] w wa := HVA.out.1.1
          have hGw := HVA.out.1.2.2.2.1
          have hnbw := HVA.out.1.2.2.2.2.1
          have hxr : RdB wa (.slice va dx.b.length vc) dx.b := by rw [← HDK.out.2.2]; exact HDK.out.1.1.pure hxw
          have hvb : Sep wa dx.b.length (.slice va dx.b.length vc) (J :: (F ++ [nb])) := by
            rw [← HDK.out.2.2]
            intro hp k hk
            have h1 := HDK.out.1.2.1 hp k hk
            refine ⟨Nat.lt_of_lt_of_le h1 hxw.size, fun hm => ?_⟩
            have hm' : k ∈ (J :: F) ++ [nb] := hm
            rcases List.mem_append.1 hm' with hm | hm
            · have := (hGw k hm).1; omega
            · simp at hm; omega
          have hJF := HVA.out.2.2.2.2.2.2
          have hsm := st_small HS.out HVA.out.2.2.2.2.2.1
          have hnbl : nb < wa.heap.size := lt_of_block HVA.out.1.2.2.1
          have hxbG : wr.heap.size ∉ J :: F := fun hm => by
            rcases List.mem_cons.1 hm with hm | hm
            · have := lt_of_block (show wr.heap[J]? = _ from HV.out.1.2.1); omega
            · have := HV.out.1.2.2.1.lt _ hm; omega
          have HPRE := Lib.hid (And.intro hxr (And.intro hvb (And.intro hJF (And.intro hsm (And.intro hnbl hxbG)))))
          clear hxw hGw hnbw hxr hvb hJF hsm hnbl hxbG
          refine (then_any wa [nb] J D L A Da F d h av rv _ dx.what dx.n dx.bit area dx.b recs HS.out HVA.out.2.1 HVA.out.2.2.1 HVA.out.2.2.2.1 HVA.out.2.2.2.2.1 HVA.out.2.2.2.2.2.1 (by have := HV.out.2; omega) HDK.out.1.2.2.1 HPRE.out.1 HDK.out.2.1 HPRE.out.2.1 HVA.out.1.2.2.2.2.2 (by have := HPRE.out.2.2.2.2.1; simpa using this) HPRE.out.2.2.1 HPRE.out.2.2.2.1.2.1).mono ?_
          rintro e wb ⟨⟨pe, pd⟩, h', lost, hout, av', rv', F2, rfl, hd2, hs2, hJ2, hj2, hm2, hx2⟩
          have hshape : ∃ ya yn yc za zn zc, av' = .slice ya yn yc ∧ rv' = .slice za zn zc := by
            obtain ⟨⟨⟨_, ya, yc, rfl, _⟩, _⟩, ys, _, ⟨_, za, zc, rfl, _⟩, _⟩ := hm2
            exact ⟨_, _, _, _, _, _, rfl, rfl⟩
          obtain ⟨ya, yn, yc, za, zn, zc, rfl, rfl⟩ := hshape
          have hsub : ∀ k ∈ J :: F2, k ∈ J :: F ∨ wa.heap.size ≤ k := fun k hk => by
            rcases List.mem_cons.1 hk with rfl | hk
            · exact .inl (by simp)
            · exact (hs2 k hk).imp (fun h => by simp [h]) id
          have hB2 := HVA.out.1.ex (G2 := J :: F2) hx2 (fun k hk => .inl hk) hsub
          have hxb2 := hx2.obj HA1.out.2 HPRE.out.2.2.2.2.2
          have hx3 : Ex [] wb (wb.alloc (.cells #[.slice ya yn yc, .slice za zn zc] 40)) := (Ex.refl [] wb).alloc _
          have hb3 := heap_alloc_new wb (.cells #[.slice ya yn yc, .slice za zn zc] 40)
          have hm3 : Md (wb.alloc (.cells #[.slice ya yn yc, .slice za zn zc] 40)) ((J :: F2) ++ [nb]) (.slice ya yn yc) (.slice za zn zc) (areaOf dx.what area dx.b) (recsOf dx.what recs dx.b) := hm2.pure hx3
          have hxb3 := hx3.obj hxb2 (by simp)
          have HTB : Hid (wa.heap.size ≤ wb.heap.size ∧ ∀ k ∈ F2, k < wb.heap.size) := ⟨hx2.size, hd2.lt⟩
          have H3 := Lib.hid (And.intro (hB2.pure hx3) (And.intro hb3 (And.intro hm3 (And.intro hxb3 (And.intro (hd2.pure hx3) (And.intro hJ2 (hj2.pure hx3 (by simp))))))))
          clear hd2 hs2 hJ2 hj2 hm2 hx2 hsub hB2 hxb2 hx3 hb3 hm3 hxb3 n0 n1 b0 b1 b2 b3
          rcases hout with ⟨hpe, hpd, hh, hlo⟩ | ⟨hpe, hup, hpn, hst, hlo, hrd⟩ | ⟨hpe, hdn, hpl, g, hgr, hq⟩
          · simp only at hpe hpd
            subst hpe hpd hh hlo
            go_upto_region 19 with (fail)
            generalize wb.alloc (.cells #[.slice ya yn yc, .slice za zn zc] 40) = wc at *
            have n0 := H3.out.1.cells.2.2.2.1
            have n1 := H3.out.1.cells.2.2.2.2.1
            have hjr : Hid (Jr wc J D L A Da F2 pd h' recs area) := ⟨H3.out.2.2.2.2.2.2, H3.out.2.2.2.2.1, HVA.out.2.2.2.1, HVA.out.2.2.2.2.1, HVA.out.2.2.2.2.2.1, H3.out.2.2.2.2.2.1⟩
            go_wp2_with fail
            refine (is_jr wc J D L A Da F2 pd h' recs area av rv area recs true HS.out hjr.out H3.out.1.2.2.2.2.2.less HPRE.out.2.2.2.1 (by simp)).mono ?_
            rintro e wd ⟨rfl, hj4, hx4⟩
            have hN : Hid (Inv w wd nb J D L A Da F2 pd h' recs area av rv) := ⟨H3.out.1.ex hx4 (fun k hk => .inl (by simp at hk; simp [hk])) (fun _ hk => .inl hk), hjr.out.look hj4 hx4⟩
            clear hj4 hx4 n0 n1
            go_wp2_with fail
            go_roundw
            case rel => exact ⟨k + 1, J, F2, _, _, recs, area, av, rv, by have := HLT.out; omega, by go_num, rfl, hN.out, by have := HV.out.2; omega⟩
            case measure => have := HLT.out; simp [intOf]; omega
          · simp only at hpe
            subst hpe hlo
            have HO := Lib.hid (And.intro hup (And.intro hpn (And.intro hst hrd)))
            clear hup hpn hst hrd
            go_upto_region 19 with (fail)
            generalize wb.alloc (.cells #[.slice ya yn yc, .slice za zn zc] 40) = wc at *
            have n0 := H3.out.1.cells.2.2.2.1
            have n1 := H3.out.1.cells.2.2.2.2.1
            have f0 := H3.out.1.cells.2.2.2.2.2.1
            have f1 := H3.out.1.cells.2.2.2.2.2.2
            have t0 : wc.cell? ⟨wb.heap.size, 0, none⟩ = some (.slice ya yn yc) := (cell_of_block H3.out.2.1).trans rfl
            have t1 : wc.cell? ⟨wb.heap.size, 1, none⟩ = some (.slice za zn zc) := (cell_of_block H3.out.2.1).trans rfl
            go_upto_region 21 with (fail)
            have hB4 := H3.out.1.put H3.out.2.2.1
            have hx4 : Ex [nb] wc ((wc.setCell ⟨nb, 0, none⟩ (.slice ya yn yc)).setCell ⟨nb, 1, none⟩ (.slice za zn zc)) := ((Ex.refl [nb] wc).setCell (.inl (by simp)) _).setCell (.inl (by simp)) _
            have hnF : nb ∉ J :: F2 := fun hm => (H3.out.1.2.2.2.1 nb hm).2.2 rfl
            have hjr : Hid (Jr ((wc.setCell ⟨nb, 0, none⟩ (.slice ya yn yc)).setCell ⟨nb, 1, none⟩ (.slice za zn zc)) J D L A Da F2 pd h' (recsOf dx.what recs dx.b) (areaOf dx.what area dx.b)) := ⟨(show JnAt _ J D h' L A Da false from H3.out.2.2.2.2.2.2.pure hx4 (by simp; rintro rfl; exact hnF (by simp))), H3.out.2.2.2.2.1.ex hx4 (fun k hk hm => by simp at hm; subst hm; exact hnF (by simp [hk])), HO.out.1, HO.out.2.1, HO.out.2.2.1, H3.out.2.2.2.2.2.1⟩
            have HB4 := Lib.hid hB4
            clear hB4 hx4 hnF n0 n1 f0 f1 t0 t1
            generalize (wc.setCell ⟨nb, 0, none⟩ (.slice ya yn yc)).setCell ⟨nb, 1, none⟩ (.slice za zn zc) = we at *
            have n0 := HB4.out.cells.2.2.2.1
            have n1 := HB4.out.cells.2.2.2.2.1
            go_wp2_with fail
            refine (is_jr we J D L A Da F2 pd h' _ _ (.slice ya yn yc) (.slice za zn zc) _ _ true HS.out hjr.out HB4.out.2.2.2.2.2.less (st_small HS.out HO.out.2.2.1) (by simp)).mono ?_
            rintro e wd ⟨rfl, hj4, hx4⟩
            have hN : Hid (Inv w wd nb J D L A Da F2 pd h' (recsOf dx.what recs dx.b) (areaOf dx.what area dx.b) (.slice ya yn yc) (.slice za zn zc)) := ⟨HB4.out.ex hx4 (fun k hk => .inl (by simp at hk; simp [hk])) (fun _ hk => .inl hk), hjr.out.look hj4 hx4⟩
            clear hj4 hx4 n0 n1
            go_wp2_with fail
            go_roundw
            case rel => exact ⟨k + 1, J, F2, _, _, _, _, _, _, by have := HLT.out; omega, by go_num, rfl, hN.out, by have := HV.out.2; have := HO.out.2.2.2; omega⟩
            case measure => have := HLT.out; simp [intOf]; omega
          · simp only at hpe
            subst hpe
            go_upto_region 19 with (fail)
            generalize wb.alloc (.cells #[(.slice ya yn yc), (.slice za zn zc)] 40) = wc at *
            have b1 : wc.cell? ⟨wr.heap.size, 1, none⟩ = some (.int .i64 dx.n) := (cell_of_block H3.out.2.2.2.1).trans rfl
            have hwk := wake_st (p := (10, pd)) dx.n hdn hq
            have hst2 : ∃ (h2 : Hd) (r2 : List (List UInt8)) (a2 : List UInt8), St (pd.wake dx.n).2.kept L A Da h2 r2 a2 ∧ h2.round ≤ h.round + 1 ∧ ((a2 = area ∧ r2 = recs) ∨ (a2 = areaOf dx.what area dx.b ∧ r2 = recsOf dx.what recs dx.b)) := by
              rcases hwk.2.2.2 with hst | hst
              · exact ⟨h, recs, area, hst, by omega, .inl ⟨rfl, rfl⟩⟩
              · exact ⟨g, _, _, hst, by omega, .inr ⟨rfl, rfl⟩⟩
            obtain ⟨h2, r2, a2, hst, hrd, hor⟩ := hst2
            have HW := Lib.hid (And.intro hwk.2.1 (And.intro hwk.2.2.1 (And.intro hst (And.intro hrd hor))))
            have HW1 : Hid ((pd.wake dx.n).1 = 0) := hwk.1
            have hpl' : pd.pend.length ≤ 1000000 := Nat.le_trans hpl (by decide)
            clear hdn hpl hgr hq hwk hst hrd hor
            go_wp2_with fail
            refine (Wake_any wc D F2 pd dx.n hpl' H3.out.2.2.2.2.1).mono ?_
            rw [HW1.out]
            rintro e wd ⟨rfl, F3, hd3, hs3, hx3⟩
            have hsub : ∀ k ∈ J :: F3, k ∈ J :: F2 ∨ wc.heap.size ≤ k := fun k hk => by
              rcases List.mem_cons.1 hk with rfl | hk
              · exact .inl (by simp)
              · exact (hs3 k hk).imp (fun h => by simp [h]) id
            have hsub' : ∀ k ∈ (J :: F3) ++ [nb], k ∈ (J :: F2) ++ [nb] ∨ wc.heap.size ≤ k := fun k hk => by
              rcases List.mem_append.1 hk with hk | hk
              · exact (hsub k hk).imp (fun h => by simp only [List.mem_append]; exact .inl h) id
              · exact .inl (by simp only [List.mem_append]; exact .inr hk)
            have htb2 : wb.heap.size ∉ J :: F2 := fun hm => by
              have hl := lt_of_block H3.out.2.1
              rcases List.mem_cons.1 hm with hm | hm
              · have h1 := HVA.out.2.1
                have h2 := lt_of_block (show wa.heap[J]? = _ from h1)
                have h3 := HTB.out.1; omega
              · have h1 := HTB.out.2 _ hm; omega
            have hB3 := H3.out.1.ex (G2 := J :: F3) hx3 (fun k hk => .inl (List.mem_cons_of_mem _ hk)) hsub
            have hM3 := H3.out.2.2.1.ex (G2 := (J :: F3) ++ [nb]) hx3 (fun k hk => .inl (List.mem_append.2 (.inl (List.mem_cons_of_mem _ hk)))) hsub'
            have hT3 := hx3.obj H3.out.2.1 (fun hm => htb2 (List.mem_cons_of_mem _ hm))
            have htb3 : wb.heap.size ∉ F3 := fun hm => by
              rcases hs3 _ hm with h | h
              · exact htb2 (List.mem_cons_of_mem _ h)
              · have := lt_of_block H3.out.2.1; omega
            have g0 := hB3.cells.1
            have g1 := hB3.cells.2.1
            have g2 := hB3.cells.2.2.1
            have H4 := Lib.hid (And.intro hB3 (And.intro hM3 (And.intro hT3 (And.intro htb3 hd3))))
            clear hB3 hM3 hT3 htb3 hd3 hs3 hx3 hsub hsub' htb2 b1 hpl'
            go_wp2_with fail
            refine (Open_good wd D F3 (pd.wake dx.n).2 L A Da h2 r2 HS.out H4.out.2.2.2.2 HW.out.1 (by rw [HW.out.2.1]; simp) HW.out.2.2.1.len (HW.out.2.2.1.shows HS.out HW.out.2.1).1).mono ?_
            rintro e we ⟨J2, rfl, hj2, hJ2, hx2⟩
            have hsub : ∀ k ∈ J2 :: F3, k ∈ J :: F3 ∨ wd.heap.size ≤ k := fun k hk => by
              rcases List.mem_cons.1 hk with rfl | hk
              · exact .inr hJ2
              · exact .inl (by simp [hk])
            have hJ2F : J2 ∉ F3 := fun hm => by have := H4.out.2.2.2.2.lt _ hm; omega
            have htbJ : wb.heap.size ∉ J2 :: F3 := fun hm => by
              rcases List.mem_cons.1 hm with hm | hm
              · have := lt_of_block H4.out.2.2.1; omega
              · exact H4.out.2.2.2.1 hm
            have XS0 : Hid (Xs w we nb wb.heap.size J2 D L A Da F3 (pd.wake dx.n).2 h2 r2 a2 av rv area recs (.slice ya yn yc) (.slice za zn zc) (areaOf dx.what area dx.b) (recsOf dx.what recs dx.b)) := ⟨H4.out.1.ex hx2 (fun _ hk => by cases hk) hsub, H4.out.2.1.ex hx2 (fun _ hk => by cases hk) (fun k hk => by
              rcases List.mem_append.1 hk with hk | hk
              · exact (hsub k hk).imp (fun h => by simp only [List.mem_append]; exact .inl h) id
              · exact .inl (by simp only [List.mem_append]; exact .inr hk)), hx2.obj H4.out.2.2.1 (by simp), htbJ, hj2, H4.out.2.2.2.2.pure hx2, HW.out.1, HW.out.2.1, HW.out.2.2.1, hJ2F⟩
            have HSM : Hid ((area.length ≤ 1000000 ∧ recs.length ≤ 1000000 ∧ ∀ r ∈ recs, r.length ≤ 1000000) ∧ ((areaOf dx.what area dx.b).length ≤ 1000000 ∧ (recsOf dx.what recs dx.b).length ≤ 1000000 ∧ ∀ r ∈ recsOf dx.what recs dx.b, r.length ≤ 1000000)) := ⟨HPRE.out.2.2.2.1, then_small dx.what (st_small' HS.out HVA.out.2.2.2.2.2.1) HDK.out.2.1⟩
            clear hj2 hJ2 hx2 hsub hJ2F htbJ g0 g1 g2
            cases hb1 : decide (a2 = area ∧ r2 = recs) with
            | true =>
              have HB1 := Lib.hid hb1
              clear hb1
              have n0 := XS0.out.1.cells.2.2.2.1
              have n1 := XS0.out.1.cells.2.2.2.2.1
              go_wp2_with fail
              refine (XS0.out.now (b := true) HS.out HSM.out.1 HB1.out).mono ?_
              rintro e wf ⟨rfl, hxs⟩
              have XS1 := Lib.hid hxs
              clear hxs n0 n1
              cases hb2 : decide (a2 = areaOf dx.what area dx.b ∧ r2 = recsOf dx.what recs dx.b) with
              | true =>
                have HB2 := Lib.hid hb2
                clear hb2
                have n0 := XS1.out.cells.1
                have n1 := XS1.out.cells.2
                go_wp2_with fail
                refine (XS1.out.next (b := true) HS.out HSM.out.2 HB2.out).mono ?_
                rintro e wg ⟨rfl, hxs⟩
                have XS2 := Lib.hid hxs
                clear hxs n0 n1
                have n0 := XS2.out.1.cells.2.2.2.1
                have n1 := XS2.out.1.cells.2.2.2.2.1
                have f0 := XS2.out.1.cells.2.2.2.2.2.1
                have f1 := XS2.out.1.cells.2.2.2.2.2.2
                have t0 := XS2.out.cells.1
                have t1 := XS2.out.cells.2
                have hN : Hid (Inv w ((wg.setCell ⟨nb, 0, none⟩ (.slice ya yn yc)).setCell ⟨nb, 1, none⟩ (.slice za zn zc)) nb J2 D L A Da F3 (pd.wake dx.n).2 h2 r2 a2 (.slice ya yn yc) (.slice za zn zc)) := XS2.out.put (of_decide_eq_true HB2.out)
                go_wp2_with fail
                go_roundw
                case rel => exact ⟨k + 1, J2, F3, _, h2, r2, a2, _, _, by have := HLT.out; omega, by go_num, rfl, hN.out, by have := HV.out.2; have := HW.out.2.2.2.1; omega⟩
                case measure => have := HLT.out; simp [intOf]; omega
              | false =>
                have HB2 := Lib.hid hb2
                clear hb2
                have n0 := XS1.out.cells.1
                have n1 := XS1.out.cells.2
                go_wp2_with fail
                refine (XS1.out.next (b := false) HS.out HSM.out.2 HB2.out).mono ?_
                rintro e wg ⟨rfl, hxs⟩
                have XS2 := Lib.hid hxs
                clear hxs n0 n1
                have hN : Hid (Inv w wg nb J2 D L A Da F3 (pd.wake dx.n).2 h2 r2 a2 av rv) := XS2.out.keep (of_decide_eq_true HB1.out)
                go_wp2_with fail
                go_roundw
                case rel => exact ⟨k + 1, J2, F3, _, h2, r2, a2, _, _, by have := HLT.out; omega, by go_num, rfl, hN.out, by have := HV.out.2; have := HW.out.2.2.2.1; omega⟩
                case measure => have := HLT.out; simp [intOf]; omega
            | false =>
              have HB1 := Lib.hid hb1
              have HB2 : Hid (decide (a2 = areaOf dx.what area dx.b ∧ r2 = recsOf dx.what recs dx.b) = true) := by
                show _ = _
                rw [decide_eq_true_iff]
                rcases HW.out.2.2.2.2 with h | h
                · exact absurd h (of_decide_eq_false hb1)
                · exact h
              clear hb1
              have n0 := XS0.out.1.cells.2.2.2.1
              have n1 := XS0.out.1.cells.2.2.2.2.1
              go_wp2_with fail
              refine (XS0.out.now (b := false) HS.out HSM.out.1 HB1.out).mono ?_
              rintro e wf ⟨rfl, hxs⟩
              have XS1 := Lib.hid hxs
              clear hxs n0 n1
              have n0 := XS1.out.cells.1
              have n1 := XS1.out.cells.2
              go_wp2_with fail
              refine (XS1.out.next (b := true) HS.out HSM.out.2 HB2.out).mono ?_
              rintro e wg ⟨rfl, hxs⟩
              have XS2 := Lib.hid hxs
              clear hxs n0 n1
              have n0 := XS2.out.cells.1
              have n1 := XS2.out.cells.2
              go_wp2_with fail
              refine (XS2.out.next (b := true) HS.out HSM.out.2 HB2.out).mono ?_
              rintro e wh ⟨rfl, hxs⟩
              have XS3 := Lib.hid hxs
              clear hxs n0 n1
              have n0 := XS3.out.1.cells.2.2.2.1
              have n1 := XS3.out.1.cells.2.2.2.2.1
              have f0 := XS3.out.1.cells.2.2.2.2.2.1
              have f1 := XS3.out.1.cells.2.2.2.2.2.2
              have t0 := XS3.out.cells.1
              have t1 := XS3.out.cells.2
              have hN : Hid (Inv w ((wh.setCell ⟨nb, 0, none⟩ (.slice ya yn yc)).setCell ⟨nb, 1, none⟩ (.slice za zn zc)) nb J2 D L A Da F3 (pd.wake dx.n).2 h2 r2 a2 (.slice ya yn yc) (.slice za zn zc)) := XS3.out.put (of_decide_eq_true HB2.out)
              go_wp2_with fail
              go_roundw
              case rel => exact ⟨k + 1, J2, F3, _, h2, r2, a2, _, _, by have := HLT.out; omega, by go_num, rfl, hN.out, by have := HV.out.2; have := HW.out.2.2.2.1; omega⟩
              case measure => have := HLT.out; simp [intOf]; omega
      · have hkn : k = ds.length := by omega
        have e1 : decide ((k : Int) < (ds.length : Int)) = false := by simp; omega
        have g0 := HV.out.1.1.cells.1
        have g1 := HV.out.1.1.cells.2.1
        have g2 := HV.out.1.1.cells.2.2.1
        go_wp2_with fail
        refine (Open_good wr D F d L A Da h recs HS.out HV.out.1.2.2.1 HV.out.1.2.2.2.1 (by rw [HV.out.1.2.2.2.2.1]; simp) HV.out.1.2.2.2.2.2.1.len (HV.out.1.2.2.2.2.2.1.shows HS.out HV.out.1.2.2.2.2.1).1).mono ?_
        rintro e wb ⟨J3, rfl, hj3, hJ3, hx3⟩
        have hbs : Hid (Bs w wb nb L A Da (J3 :: F) av rv area recs) := HV.out.1.1.ex hx3 (fun _ hk => by cases hk) (fun k hk => by
          rcases List.mem_cons.1 hk with rfl | hk
          · exact .inr hJ3
          · exact .inl (by simp [hk]))
        have hJ3F : J3 ∉ F := fun hm => by have := HV.out.1.2.2.1.lt _ hm; omega
        have hjr : Hid (Jr wb J3 D L A Da F d h recs area) := ⟨hj3, HV.out.1.2.2.1.pure hx3, HV.out.1.2.2.2.1, HV.out.1.2.2.2.2.1, HV.out.1.2.2.2.2.2.1, hJ3F⟩
        have m0 := hbs.out.cells.2.2.2.1
        have m1 := hbs.out.cells.2.2.2.2.1
        clear hj3 hJ3 hx3 hJ3F g0 g1 g2
        go_wp2_with fail
        refine (is_jr wb J3 D L A Da F d h recs area av rv area recs true HS.out hjr.out hbs.out.2.2.2.2.2.less (st_small HS.out hjr.out.2.2.2.2.1) (by simp)).mono ?_
        rintro e wc ⟨rfl, _, hx4⟩
        have hend : Hid (Ex [] w wc) := hbs.out.1.off hx4 (fun k hk => by simp at hk; subst hk; exact (hbs.out.2.2.2.1 k (by simp)).1)
        clear hx4 m0 m1
        go_wp2_with fail
        go_ret
        exact ⟨rfl, hend.out⟩

theorem kept_any (w : World) (L A Da : Int) (lv : Value) (ds : List DeedP) (hL : -9223372036854775808 ≤ L ∧ L ≤ 9223372036854775807) (hA : -9223372036854775808 ≤ A ∧ A ≤ 9223372036854775807) (hD : -9223372036854775808 ≤ Da ∧ Da ≤ 9223372036854775807) (hd : Deeds w lv ds) :
    Calls Tryz.prog 3 #[.agg #[.int .i64 L, .int .i64 A, .int .i64 Da], lv] w (Truth w) := by
  cases hR : rightS L A Da with
  | false => exact kept_not w L A Da lv ds hL hA hD hd hR
  | true =>
    obtain ⟨l, a, d, rfl, rfl, rfl, hs⟩ := right_of hR
    exact kept_ok w l a d lv ds hs hd
end Go.Proofs.YtckmpdplmpgniaaGreat
