/- The law's model: what it has, whether a journal has just that. No condition but ranges. -/
import Derived.Test.YtckmpdplmpgniaaGreatLawE
namespace Go.Proofs.YtckmpdplmpgniaaGreat
open Go Go.RowKit

/-- A slice of so many elements leads to blocks that are there, and to none of these. -/
def Sep (w : World) (n : Nat) (v : Value) (G : List Nat) : Prop := 0 < n → ∀ k ∈ bk v, k < w.heap.size ∧ k ∉ G

/-- A model in memory: an area, records; it lies in none of these blocks. -/
def Md (w : World) (G : List Nat) (av rv : Value) (area : List UInt8) (recs : List (List UInt8)) : Prop :=
  (RdB w av area ∧ Sep w area.length av G) ∧ ∃ ts : List (Value × List UInt8), ts.map Prod.snd = recs ∧ Rd w 1 rv ts.length (ts.map Prod.fst) ∧ Sep w ts.length rv G ∧ ∀ t ∈ ts, RdB w t.1 t.2 ∧ Sep w t.2.length t.1 G

theorem Sep.ex {w w' : World} {n : Nat} {v : Value} {G G2 : List Nat} (h : Sep w n v G) (hs : w.heap.size ≤ w'.heap.size) (h2 : ∀ k ∈ G2, k ∈ G ∨ w.heap.size ≤ k) : Sep w' n v G2 := fun hn k hk => ⟨Nat.lt_of_lt_of_le (h hn k hk).1 hs, fun hm => by
  have := (h hn k hk).1
  rcases h2 k hm with h' | h'
  · exact (h hn k hk).2 h'
  · omega⟩

theorem Sep.off {w : World} {n : Nat} {v : Value} {G G1 : List Nat} (h : Sep w n v G) (h1 : ∀ k ∈ G1, k ∈ G ∨ w.heap.size ≤ k) : 0 < n → Off w v G1 := fun hn k hk _ hm => by
  have := (h hn k hk).1
  rcases h1 k hm with h' | h'
  · exact (h hn k hk).2 h'
  · omega

theorem Md.ex {w w' : World} {G G1 G2 : List Nat} {av rv : Value} {area : List UInt8} {recs : List (List UInt8)} (h : Md w G av rv area recs) (hx : Ex G1 w w') (h1 : ∀ k ∈ G1, k ∈ G ∨ w.heap.size ≤ k) (h2 : ∀ k ∈ G2, k ∈ G ∨ w.heap.size ≤ k) : Md w' G2 av rv area recs := by
  obtain ⟨⟨a1, a2⟩, ts, a3, a4, a5, a6⟩ := h
  exact ⟨⟨a1.exz hx (a2.off h1), a2.ex hx.size h2⟩, ts, a3, a4.exz hx (a5.off h1), a5.ex hx.size h2, fun t ht => ⟨(a6 t ht).1.exz hx ((a6 t ht).2.off h1), (a6 t ht).2.ex hx.size h2⟩⟩

theorem Md.pure {w w' : World} {G : List Nat} {av rv : Value} {area : List UInt8} {recs : List (List UInt8)} (h : Md w G av rv area recs) (hx : Ex [] w w') : Md w' G av rv area recs := h.ex hx (fun _ hk => by cases hk) fun _ hk => .inl hk

/-- Bytes do not lie in a journal. -/
theorem rd_past {w w' : World} {J D L A Da : Nat} {h : Hd} {lost : Bool} {v : Value} {l : List UInt8} (hj : JnAt w J D h L A Da lost) (hr : RdB w v l) (hx : Ex [J] w w') : RdB w' v l := by
  obtain ⟨h1, a, cap, rfl, h3, h4, h5, h6⟩ := hr
  refine ⟨h1, a, cap, rfl, h3, h4, h5, fun hn => ?_⟩
  obtain ⟨b, o, rfl, hc⟩ := h6 hn
  refine ⟨b, o, rfl, fun j u hj' => ?_⟩
  have hcell := hc j u hj'
  by_cases hb : b = J
  · exfalso
    subst hb
    rw [cell_of_block hj] at hcell
    rw [encB_get] at hj'
    obtain ⟨x, _, rfl⟩ := Option.map_eq_some_iff.1 hj'
    have hm := Array.mem_of_getElem? hcell
    simp [jcells] at hm
  · exact hx.cell (by simpa using hb) hcell

/-- What is tells, and leaves. -/
def Isd (w : World) (J D L A Da : Nat) (h : Hd) (b : Bool) (x : Ending) (w' : World) : Prop := x = .returned (.bool b) ∧ JnAt w' J D h L A Da false ∧ Ex [J] w w'

theorem take_eq_succ {α : Type} {a b : List α} {k : Nat} (ha : k < a.length) (hb : k < b.length) (h : a.take k = b.take k) (he : a[k] = b[k]) : a.take (k + 1) = b.take (k + 1) := by
  rw [List.take_succ_eq_append_getElem ha, List.take_succ_eq_append_getElem hb, h, he]

theorem at_snd {ts : List (Value × List UInt8)} {recs : List (List UInt8)} (h : ts.map Prod.snd = recs) (k : Nat) (hk : k < ts.length) (hk' : k < recs.length) : ts[k].2 = recs[k] := by
  subst h; simp

set_option maxRecDepth 100000 in
set_option maxHeartbeats 8000000 in
theorem is_any (w : World) (J D L A Da : Nat) (F : List Nat) (d : Dv) (h : Hd) (jr : List (List UInt8)) (ja : List UInt8) (av rv : Value) (area : List UInt8) (recs : List (List UInt8)) (hs : shapeOk L A Da) (hj : JnAt w J D h L A Da false) (hd : DevAt w D F d) (hu : d.down = false) (hp : d.pend = [])
    (hst : St d.kept L A Da h jr ja) (hJF : J ∉ F) (hm : Md w (J :: F) av rv area recs) (hal : area.length ≤ 1000000) (hrl : recs.length ≤ 1000000) (hre : ∀ r ∈ recs, r.length ≤ 1000000) :
    Calls Tryz.prog 16 #[.agg #[av, rv], .pointer (some ⟨J, 0, none⟩)] w (Isd w J D L A Da h (decide (ja = area ∧ jr = recs))) := by
  obtain ⟨hsh, hba⟩ := hst.shows hs hp
  have hn : sectorsS L A Da ≤ d.kept.length := hst.len
  have hp' : d.pend.length ≤ 1000000 := by rw [hp]; simp
  have hsz := hst.size
  have hus := hst.used
  have hja : ja.length ≤ 1000000 := by
    rw [← hst.area, bytesK_length]
    obtain ⟨⟨_, _⟩, ⟨_, _⟩, _⟩ := hs
    omega
  have hjr : jr.length ≤ 1000000 ∧ ∀ r ∈ jr, r.length ≤ 1000000 := by
    have h1 := txts_each jr
    have h2 : (txts jr).length = h.used := by rw [← hst.log, bytesK_length]
    obtain ⟨⟨_, _⟩, _⟩ := hs
    exact ⟨by omega, fun r hr => by have := h1.1 r hr; omega⟩
  have HJ := Lib.hid hj
  have HD := Lib.hid hd
  have HM := Lib.hid hm
  have HB := Lib.hid hba
  have HJR := Lib.hid hjr
  have HRE := Lib.hid hre
  have HSH := Lib.hid hsh
  have HST := Lib.hid hst
  have HS := Lib.hid hs
  have hb0 := heap_alloc_new w (.cells #[av, rv] 40)
  have HX0 := Lib.hid (And.intro ((Ex.refl [] w).alloc (.cells #[av, rv] 40)) hb0)
  have hJlt := lt_of_block hj
  obtain ⟨⟨⟨_, aa, ac, rfl, _⟩, _⟩, ts, hts, ⟨_, ra, rc, rfl, _⟩, _⟩ := hm
  have HTS := Lib.hid hts
  clear hj hd hba hjr hre hsh hst hs hb0 hts
  generalize hres : decide (ja = area ∧ jr = recs) = res
  have HRES := Lib.hid hres
  clear hres
  go_enter Tryz.func16, Tryz.ntmps16
  go_wp2_with fail
  refine (Area_good _ J D L A Da F d h HS.out (HJ.out.pure HX0.out.1 (by simp)) (HD.out.pure HX0.out.1) hu hp' hn HST.out.ok.1 hsz).mono ?_
  rintro x w1 ⟨a1, cap1, rfl, hr1, hl1, hj1, hx1⟩
  rw [HB.out] at hr1 hl1
  have hxw1 : Ex [J] w w1 := HX0.out.1.of_nil.trans hx1 (Sw.refl _ _)
  have hb1 := hx1.obj HX0.out.2 (by simp; omega)
  have hd1 := HD.out.ex hxw1 (fun k hk hm => by simp at hm; subst hm; exact hJF hk)
  have H1 := Lib.hid (And.intro hr1 (And.intro hl1 (And.intro hj1 (And.intro hxw1 (And.intro hb1 hd1)))))
  clear hr1 hl1 hj1 hx1 hxw1 hb1 hd1
  go_wp2_with fail
  refine (Records_good w1 J D L A Da F d h jr HS.out H1.out.2.2.1 H1.out.2.2.2.2.2 hu hp' hn hus HSH.out.log).mono ?_
  rintro x w2 ⟨u, us, rfl, hus2, hlst, hj2, hx2⟩
  have hrd2 : RdB w2 (.slice a1 h.size cap1) ja := rd_past H1.out.2.2.1 H1.out.1 hx2
  have hxw2 : Ex [J] w w2 := H1.out.2.2.2.1.trans hx2 (fun k hk => .inl hk)
  have hb2 := hx2.obj H1.out.2.2.2.2.1 (by simp; omega)
  have hm2 := HM.out.ex (G2 := J :: F) hxw2 (fun k hk => by simp at hk; subst hk; exact .inl (by simp)) (fun _ hk => .inl hk)
  have b0 : w2.cell? ⟨w.heap.size, 0, none⟩ = some (.slice aa area.length ac) := by rw [cell_of_block hb2]; rfl
  have b1 : w2.cell? ⟨w.heap.size, 1, none⟩ = some (.slice ra ts.length rc) := by rw [cell_of_block hb2]; rfl
  have hul : us.length = jr.length := by rw [← hus2]; simp
  have htl : ts.length = recs.length := by rw [← HTS.out]; simp
  obtain ⟨_, ua, uc, hueq, _⟩ := rd_of_owns hlst.1
  subst hueq
  have H2 := Lib.hid (And.intro hrd2 (And.intro hj2 (And.intro hxw2 (And.intro hm2 (And.intro hlst hus2)))))
  have HL := Lib.hid (And.intro hul htl)
  clear hrd2 hj2 hx2 hxw2 hb2 hm2 hlst hus2 hul htl
  go_wp2_with fail
  refine (SameBytes_any w2 ja area _ _ H2.out.1 H2.out.2.2.2.1.1.1 (by omega) (by omega)).mono ?_
  rintro x w3 ⟨rfl, hx3⟩
  have d1 := hx3.cell (by simp) b1
  have H3 := Lib.hid hx3
  clear hx3 b0 b1
  by_cases hA : ja = area
  · have e1 : decide (ja = area) = true := by simpa using hA
    by_cases hN : us.length = ts.length
    · have e2 : ((us.length : Int) != (ts.length : Int)) = false := by simp; omega
      have HA := Lib.hid (And.intro hA hN)
      rw [e1]
      clear hA hN e1
      go_wp2_with fail
      go_loopw [9] (fun i wr => ∃ k : Nat, k ≤ us.length ∧ i = .int .i64 k ∧ Hid (Ex [] w3 wr ∧ jr.take k = recs.take k)) (fun i _ => us.length - (intOf i).toNat)
      case atStart => exact ⟨0, Nat.zero_le _, rfl, Ex.refl _ _, rfl⟩
      case round =>
        obtain ⟨k, hk, rfl, HR⟩ := hrel
        have hjl : us.length = jr.length := HL.out.1
        have hrl' : us.length = recs.length := HA.out.2.trans HL.out.2
        have HJL := Lib.hid (And.intro hjl hrl')
        have hx2r : Ex [] w2 wr := H3.out.pure HR.out.1
        have HXR := Lib.hid hx2r
        clear hjl hrl' hx2r
        have r1 := HR.out.1.cell (by simp) d1
        by_cases hlt : k < us.length
        · have hkj : k < jr.length := by rw [← HJL.out.1]; exact hlt
          have hkr : k < recs.length := by rw [← HJL.out.2]; exact hlt
          have hkt : k < ts.length := by rw [← HA.out.2]; exact hlt
          obtain ⟨g, o1, hg, hgc⟩ := (rd_of_owns (own_pure H2.out.2.2.2.2.1.1 HXR.out)).at (by omega)
          obtain ⟨hown, hge⟩ := H2.out.2.2.2.2.1.2.2 us[k] (List.getElem_mem hlt)
          have c1 := hgc k us[k].1 (by rw [List.getElem?_map, List.getElem?_eq_getElem hlt]; rfl)
          obtain ⟨_, tsx, htsx, hrdx, _, hallx⟩ := H2.out.2.2.2.1
          have hxl : tsx.length = ts.length := by rw [HL.out.2, ← htsx]; simp
          have hkx : k < tsx.length := by rw [hxl]; exact hkt
          rw [hxl] at hrdx
          obtain ⟨b, o2, hb, hbc⟩ := (hrdx.pure HXR.out).at (by omega)
          have c2 := hbc k tsx[k].1 (by rw [List.getElem?_map, List.getElem?_eq_getElem hkx]; rfl)
          have hu2 : us[k].2 = jr[k] := at_snd H2.out.2.2.2.2.2 k hlt hkj
          have ht2 : tsx[k].2 = recs[k] := at_snd htsx k hkx hkr
          have hrb1 : RdB wr us[k].1 jr[k] := by rw [← hu2]; exact rd_of_owns (own_pure hown HXR.out)
          have hrb2 : RdB wr tsx[k].1 recs[k] := by rw [← ht2]; exact (hallx tsx[k] (List.getElem_mem hkx)).1.pure HXR.out
          have hlb1 : (jr[k]).length ≤ 1000000 := HJR.out.2 _ (List.getElem_mem hkj)
          have hlb2 : (recs[k]).length ≤ 1000000 := HRE.out _ (List.getElem_mem hkr)
          have HRB := Lib.hid (And.intro hrb1 (And.intro hrb2 (And.intro hlb1 hlb2)))
          have e3 : decide ((k : Int) < (us.length : Int)) = true := by simpa using hlt
          have e4 : (k : Int) < (us.length : Int) := by omega
          have e5 : (k : Int) < (ts.length : Int) := by omega
          have HI := Lib.hid (And.intro hkj hkr)
          have HLT := Lib.hid hlt
          subst hg hb
          generalize us[k].1 = uv at *
          generalize tsx[k].1 = tv at *
          generalize hjk : jr[k] = jx at *
          generalize hrk : recs[k] = rx at *
          have HJK := Lib.hid (And.intro hjk hrk)
          clear hown hge hgc hbc hu2 ht2 hrb1 hrb2 hlb1 hlb2 hallx hrdx htsx hxl hlt hjk hrk
          go_wp2_with fail
          by_cases he : jx = rx
          · have e6 : decide (jx = rx) = true := by simpa using he
            have HE := Lib.hid he
            clear he
            go_region_held3 (fun w' => w'.cell? ⟨w.heap.size, 1, none⟩ = some (.slice (some ⟨b, o2, none⟩) ts.length rc) ∧ w'.cell? ⟨g, o1 + k, none⟩ = some uv ∧ w'.cell? ⟨b, o2 + k, none⟩ = some tv) (first | (refine ⟨?_, ?_, ?_⟩ <;> assumption) | (go_keep; done))
              (first | (go_at_call 23; refine (SameBytes_any wr.drew jx rx uv tv (HRB.out.1.pure ((Ex.refl [] wr).drew)) (HRB.out.2.1.pure ((Ex.refl [] wr).drew)) (by have := HRB.out.2.2.1; omega) (by have := HRB.out.2.2.2; omega)).mono ?_; rintro x w5 ⟨rfl, hx5⟩; rw [e6]; have m1 := hx5.cell (by simp) (show wr.drew.cell? _ = _ from r1); have m2 := hx5.cell (by simp) (show wr.drew.cell? ⟨g, o1 + k, none⟩ = _ from c1); have m3 := hx5.cell (by simp) (show wr.drew.cell? ⟨b, o2 + k, none⟩ = _ from c2); have H5 := Lib.hid (((Ex.refl [] wr).drew).pure hx5); clear hx5))
            clear m1 m2 m3 c1 c2 r1 e6
            go_wp2_with fail
            go_roundw
            case rel =>
              refine ⟨k + 1, by have := HLT.out; omega, by go_num, HR.out.1.pure H5.out, ?_⟩
              refine take_eq_succ HI.out.1 HI.out.2 HR.out.2 ?_
              rw [HJK.out.1, HJK.out.2, HE.out]
            case measure => have := HLT.out; simp [intOf]; omega
          · have e6 : decide (jx = rx) = false := by simpa using he
            have HE := Lib.hid he
            clear he
            go_region_held3 (fun w' => w'.cell? ⟨w.heap.size, 1, none⟩ = some (.slice (some ⟨b, o2, none⟩) ts.length rc) ∧ w'.cell? ⟨g, o1 + k, none⟩ = some uv ∧ w'.cell? ⟨b, o2 + k, none⟩ = some tv) (first | (refine ⟨?_, ?_, ?_⟩ <;> assumption) | (go_keep; done))
              (first | (go_at_call 23; refine (SameBytes_any wr.drew jx rx uv tv (HRB.out.1.pure ((Ex.refl [] wr).drew)) (HRB.out.2.1.pure ((Ex.refl [] wr).drew)) (by have := HRB.out.2.2.1; omega) (by have := HRB.out.2.2.2; omega)).mono ?_; rintro x w5 ⟨rfl, hx5⟩; rw [e6]; have m1 := hx5.cell (by simp) (show wr.drew.cell? _ = _ from r1); have m2 := hx5.cell (by simp) (show wr.drew.cell? ⟨g, o1 + k, none⟩ = _ from c1); have m3 := hx5.cell (by simp) (show wr.drew.cell? ⟨b, o2 + k, none⟩ = _ from c2); have H5 := Lib.hid (((Ex.refl [] wr).drew).pure hx5); clear hx5))
            clear m1 m2 m3 c1 c2 r1 e6
            go_wp2_with fail
            go_ret
            have hr : res = false := by
              rw [← HRES.out, decide_eq_false_iff_not]
              rintro ⟨_, h2⟩
              apply HE.out
              rw [← HJK.out.1, ← HJK.out.2]
              simp [h2]
            rw [hr]
            exact ⟨rfl, H2.out.2.1.pure (HXR.out.pure H5.out) (by simp), H2.out.2.2.1.pure (HXR.out.pure H5.out)⟩
        · have hkn : k = us.length := by omega
          have HK := Lib.hid hkn
          clear hkn r1
          have e3 : decide ((k : Int) < (us.length : Int)) = false := by simp; omega
          go_wp2_with fail
          go_ret
          have hr : res = true := by
            rw [← HRES.out, decide_eq_true_iff]
            refine ⟨HA.out.1, ?_⟩
            have h1 := HR.out.2
            rw [HK.out, List.take_of_length_le (by rw [HJL.out.1]; exact Nat.le_refl _), List.take_of_length_le (by rw [HJL.out.2]; exact Nat.le_refl _)] at h1
            exact h1
          rw [hr]
          exact ⟨rfl, H2.out.2.1.pure HXR.out (by simp), H2.out.2.2.1.pure HXR.out⟩
    · have e2 : ((us.length : Int) != (ts.length : Int)) = true := by simp; omega
      have HA : Hid (decide (ja = area ∧ jr = recs) = false) := by
        show _ = _
        rw [decide_eq_false_iff_not]
        rintro ⟨_, h2⟩
        apply hN
        rw [HL.out.1, HL.out.2, h2]
      rw [e1]
      clear hA hN e1
      go_wp2_with fail
      go_ret
      have hr : res = false := HRES.out.symm.trans HA.out
      rw [hr]
      exact ⟨rfl, H2.out.2.1.pure H3.out (by simp), H2.out.2.2.1.pure H3.out⟩
  · have e1 : decide (ja = area) = false := by simpa using hA
    have HA : Hid (decide (ja = area ∧ jr = recs) = false) := by
      show _ = _
      rw [decide_eq_false_iff_not]
      rintro ⟨h1, _⟩
      exact hA h1
    rw [e1]
    clear hA e1
    go_wp2_with fail
    go_ret
    have hr : res = false := HRES.out.symm.trans HA.out
    rw [hr]
    exact ⟨rfl, H2.out.2.1.pure H3.out (by simp), H2.out.2.2.1.pure H3.out⟩
end Go.Proofs.YtckmpdplmpgniaaGreat
