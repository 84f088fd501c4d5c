/- The law's model: what there is behind any deed, and what the journal tells. No condition but ranges. -/
import Derived.Test.YtckmpdplmpgniaaGreatLawG
namespace Go.Proofs.YtckmpdplmpgniaaGreat
open Go Go.RowKit

/-- How a deed ends: refused; taken; down, and whatever is kept of it, what there was before or behind it. -/
def Outcome (L A Da : Nat) (d : Dv) (h : Hd) (recs : List (List UInt8)) (area : List UInt8) (recs' : List (List UInt8)) (area' : List UInt8) (p : Nat × Dv) (h' : Hd) (lost : Bool) : Prop :=
  (p.1 = 3 ∧ p.2 = d ∧ h' = h ∧ lost = false) ∨
  (p.1 = 0 ∧ p.2.down = false ∧ p.2.pend = [] ∧ St p.2.kept L A Da h' recs' area' ∧ lost = false ∧ h'.round = h.round + 1) ∨
  (p.1 = 10 ∧ p.2.down = true ∧ p.2.pend.length ≤ 10000 ∧ ∃ g : Hd, g.round = h.round + 1 ∧ ∀ q, St (settled q 0 p.2.pend p.2.kept) L A Da h recs area ∨ St (settled q 0 p.2.pend p.2.kept) L A Da g recs' area')

theorem told_of_counted {W : World} {J D L A Da : Nat} {F : List Nat} {h g : Hd} {p : Nat × Dv} {x : Ending} {w' : World} (hc : Counted W J D L A Da F h g p x w') : Told W J D L A Da F (if p.1 = 0 then g else h) (decide (p.1 ≠ 0)) p x w' := hc

theorem told_of_long {W w' : World} {J D L A Da : Nat} {F : List Nat} {h : Hd} {d : Dv} {x : Ending} (hj : JnAt W J D h L A Da false) (hd : DevAt W D F d) (hJF : J ∉ F) (hc : x = .returned (.int .i64 3) ∧ Ex [] W w') : Told W J D L A Da F h false (3, d) x w' :=
  ⟨hc.1, ⟨F, hd.pure hc.2, Sw.refl _ _, hJF⟩, hj.pure hc.2 (by simp), hc.2.of_nil⟩

theorem outcome_of_ends {L A Da : Nat} {d : Dv} {h g : Hd} {recs recs' : List (List UInt8)} {area area' : List UInt8} {p : Nat × Dv} (he : Ends d p (fun K => St K L A Da h recs area) (fun K => St K L A Da g recs' area')) (hg : g.round = h.round + 1) : Outcome L A Da d h recs area recs' area' p (if p.1 = 0 then g else h) (decide (p.1 ≠ 0)) := by
  rcases he with ⟨a1, a2, a3, a4, _⟩ | ⟨a1, a2, _, a4, a5⟩
  · exact .inr (.inl ⟨a1, a2, a3, by rw [if_pos a1]; exact a4, by simp [a1], by rw [if_pos a1]; exact hg⟩)
  · exact .inr (.inr ⟨a1, a2, a4, g, hg, a5⟩)

/-- The records, the area behind a deed. -/
def recsOf (wh : Int) (recs : List (List UInt8)) (x : List UInt8) : List (List UInt8) := if pick wh 9 = 2 then [] else recs ++ [x]
def areaOf (wh : Int) (area x : List UInt8) : List UInt8 := if pick wh 9 = 2 then x else area

theorem then_any (w : World) (X : List Nat) (J D L A Da : Nat) (F : List Nat) (d : Dv) (h : Hd) (av rv v : Value) (wh nn bt : Int) (area x : List UInt8) (recs : List (List UInt8)) (hs : shapeOk L A Da) (hj : JnAt w J D h L A Da false) (hd : DevAt w D F d) (hu : d.down = false) (hp : d.pend = []) (hst : St d.kept L A Da h recs area) (hr : h.round < 1099511627776)
    (hwh : -9223372036854775808 ≤ wh ∧ wh ≤ 9223372036854775807) (hx : RdB w v x) (hxl : x.length ≤ 6000) (hvb : Sep w x.length v (J :: (F ++ X))) (hm : Md w (J :: (F ++ X)) av rv area recs) (hXX : ∀ k ∈ X, k < w.heap.size) (hJF : J ∉ F) (hrl : recs.length ≤ 1000000) :
    Calls Tryz.prog 15 #[.agg #[av, rv], .pointer (some ⟨J, 0, none⟩), .agg #[.int .i64 wh, .int .i64 nn, .int .i64 bt, v]] w fun e w' => ∃ p h' lost, Outcome L A Da d h recs area (recsOf wh recs x) (areaOf wh area x) p h' lost ∧ Thend w X J D L A Da F h' lost p (areaOf wh area x) (recsOf wh recs x) e w' := by
  have hfb : J < w.heap.size ∧ J ∉ F ∧ ∀ k ∈ F, k < w.heap.size := ⟨lt_of_block hj, hJF, hd.lt⟩
  have hn : sectorsS L A Da ≤ d.kept.length := hst.len
  by_cases hpk : pick wh 9 = 2
  · have e1 : recsOf wh recs x = [] := by unfold recsOf; rw [if_pos hpk]
    have e2 : areaOf wh area x = x := by unfold areaOf; rw [if_pos hpk]
    rw [e1, e2]
    by_cases hfit : x.length ≤ A * 64
    · have hcall : ∀ W, Ex [] w W → Calls Tryz.prog 21 #[.pointer (some ⟨J, 0, none⟩), v] W (Told W J D L A Da F (if (d.did (areaAt L A (1 - h.area)) 0 x (h.sw x)).1 = 0 then h.sw x else h) (decide ((d.did (areaAt L A (1 - h.area)) 0 x (h.sw x)).1 ≠ 0)) (d.did (areaAt L A (1 - h.area)) 0 x (h.sw x))) := fun W hW =>
        (Switch_up W J D L A Da F d h v x hs (hj.pure hW (by simp)) (hd.pure hW) hu hp hn hst.ok hr (hx.pure hW) hJF hfit).mono fun _ _ hc => told_of_counted hc
      exact (then_sw w X J D L A Da F _ _ _ av rv v wh nn bt area x recs hwh hx hvb hm hfb hcall hpk).mono fun e w' ht => ⟨_, _, _, outcome_of_ends (sw_ends hu hp hst hs hr hfit) rfl, ht⟩
    · have hcall : ∀ W, Ex [] w W → Calls Tryz.prog 21 #[.pointer (some ⟨J, 0, none⟩), v] W (Told W J D L A Da F h false (3, d)) := fun W hW =>
        (Switch_long W J D L A Da h v x hs (hj.pure hW (by simp)) hst.ok.1 hr (hx.pure hW) (by omega)).mono fun _ _ hc => told_of_long (hj.pure hW (by simp)) (hd.pure hW) hJF hc
      exact (then_sw w X J D L A Da F _ _ _ av rv v wh nn bt area x recs hwh hx hvb hm hfb hcall hpk).mono fun e w' ht => ⟨_, _, _, .inl ⟨rfl, rfl, rfl, rfl⟩, ht⟩
  · have e1 : recsOf wh recs x = recs ++ [x] := by unfold recsOf; rw [if_neg hpk]
    have e2 : areaOf wh area x = area := by unfold areaOf; rw [if_neg hpk]
    rw [e1, e2]
    by_cases hfit : h.used + (txt x).length ≤ L * 64
    · have hcall : ∀ W, Ex [] w W → Calls Tryz.prog 22 #[.pointer (some ⟨J, 0, none⟩), v] W (Told W J D L A Da F (if (d.did 1 h.used (txt x) (h.app x)).1 = 0 then h.app x else h) (decide ((d.did 1 h.used (txt x) (h.app x)).1 ≠ 0)) (d.did 1 h.used (txt x) (h.app x))) := fun W hW =>
        (Append_up W J D L A Da F d h v x hs (hj.pure hW (by simp)) (hd.pure hW) hu hp hn hst.ok hr (hx.pure hW) (fun hp k hk => Nat.lt_of_lt_of_le (hvb hp k hk).1 hW.size) hJF hfit).mono fun _ _ hc => told_of_counted hc
      exact (then_app w X J D L A Da F _ _ _ av rv v wh nn bt area x recs hwh hx hvb hm hfb hcall hXX hrl hpk).mono fun e w' ht => ⟨_, _, _, outcome_of_ends (app_ends hu hp hst hs hr hfit) rfl, ht⟩
    · have hcall : ∀ W, Ex [] w W → Calls Tryz.prog 22 #[.pointer (some ⟨J, 0, none⟩), v] W (Told W J D L A Da F h false (3, d)) := fun W hW =>
        (Append_long W J D L A Da h v x hs (hj.pure hW (by simp)) hr (hx.pure hW) (fun hp k hk => Nat.lt_of_lt_of_le (hvb hp k hk).1 hW.size) hst.used (by omega) (by omega)).mono fun _ _ hc => told_of_long (hj.pure hW (by simp)) (hd.pure hW) hJF hc
      exact (then_app w X J D L A Da F _ _ _ av rv v wh nn bt area x recs hwh hx hvb hm hfb hcall hXX hrl hpk).mono fun e w' ht => ⟨_, _, _, .inl ⟨rfl, rfl, rfl, rfl⟩, ht⟩

/-- A woken device keeps what there was before the deed, or behind it. -/
theorem wake_st {p : Nat × Dv} {L A Da : Nat} {h g : Hd} {recs recs' : List (List UInt8)} {area area' : List UInt8} (n : Int) (hd : p.2.down = true) (hq : ∀ q, St (settled q 0 p.2.pend p.2.kept) L A Da h recs area ∨ St (settled q 0 p.2.pend p.2.kept) L A Da g recs' area') :
    (p.2.wake n).1 = 0 ∧ (p.2.wake n).2.down = false ∧ (p.2.wake n).2.pend = [] ∧ (St (p.2.wake n).2.kept L A Da h recs area ∨ St (p.2.wake n).2.kept L A Da g recs' area') := by
  unfold Dv.wake
  rw [if_pos hd]
  exact ⟨rfl, rfl, rfl, hq _⟩

/-- What a journal holds is not long. -/
theorem st_small {K : List (List UInt8)} {L A Da : Nat} {h : Hd} {recs : List (List UInt8)} {area : List UInt8} (hs : shapeOk L A Da) (hst : St K L A Da h recs area) : area.length ≤ 1000000 ∧ recs.length ≤ 1000000 ∧ ∀ r ∈ recs, r.length ≤ 1000000 := by
  have h1 := txts_each recs
  have h2 : (txts recs).length = h.used := by rw [← hst.log, bytesK_length]
  have h3 : area.length = h.size := by rw [← hst.area, bytesK_length]
  have hsz := hst.size
  have hus := hst.used
  obtain ⟨⟨_, _⟩, ⟨_, _⟩, _⟩ := hs
  exact ⟨by omega, by omega, fun r hr => by have := h1.1 r hr; omega⟩

/-- What there would be is not long, either. -/
theorem then_small {area x : List UInt8} {recs : List (List UInt8)} (wh : Int) (h : area.length ≤ 900000 ∧ recs.length ≤ 900000 ∧ ∀ r ∈ recs, r.length ≤ 900000) (hx : x.length ≤ 6000) : (areaOf wh area x).length ≤ 1000000 ∧ (recsOf wh recs x).length ≤ 1000000 ∧ ∀ r ∈ recsOf wh recs x, r.length ≤ 1000000 := by
  unfold areaOf recsOf
  split
  · exact ⟨by omega, by simp, by simp⟩
  · refine ⟨by omega, by simp; omega, fun r hr => ?_⟩
    rcases List.mem_append.1 hr with hr | hr
    · have := h.2.2 r hr; omega
    · simp at hr; subst hr; omega

theorem st_small' {K : List (List UInt8)} {L A Da : Nat} {h : Hd} {recs : List (List UInt8)} {area : List UInt8} (hs : shapeOk L A Da) (hst : St K L A Da h recs area) : area.length ≤ 900000 ∧ recs.length ≤ 900000 ∧ ∀ r ∈ recs, r.length ≤ 900000 := by
  have h1 := txts_each recs
  have h2 : (txts recs).length = h.used := by rw [← hst.log, bytesK_length]
  have h3 : area.length = h.size := by rw [← hst.area, bytesK_length]
  have hsz := hst.size
  have hus := hst.used
  obtain ⟨⟨_, _⟩, ⟨_, _⟩, _⟩ := hs
  exact ⟨by omega, by omega, fun r hr => by have := h1.1 r hr; omega⟩
end Go.Proofs.YtckmpdplmpgniaaGreat
/- The law LogKept: what holds at each deed. No condition but ranges. -/
namespace Go.Proofs.YtckmpdplmpgniaaGreat
open Go Go.RowKit

/-- The model that is now, and the shape, in their variables; none of it lies in these blocks. -/
def Bs (w W : World) (nb : Nat) (L A Da : Nat) (G : List Nat) (av rv : Value) (area : List UInt8) (recs : List (List UInt8)) : Prop :=
  Ex [] w W ∧ W.heap[w.heap.size]? = some (.cells #[.int .i64 L, .int .i64 A, .int .i64 Da] 23 (0, 0)) ∧ W.heap[nb]? = some (.cells #[av, rv] 40 (0, 0)) ∧ (∀ k ∈ G, w.heap.size ≤ k ∧ k ≠ w.heap.size ∧ k ≠ nb) ∧ w.heap.size < nb ∧ Md W (G ++ [nb]) av rv area recs

theorem Bs.ex {w W W' : World} {nb L A Da : Nat} {G G1 G2 : List Nat} {av rv : Value} {area : List UInt8} {recs : List (List UInt8)} (h : Bs w W nb L A Da G av rv area recs) (hx : Ex G1 W W') (h1 : ∀ k ∈ G1, k ∈ G ∨ W.heap.size ≤ k) (h2 : ∀ k ∈ G2, k ∈ G ∨ W.heap.size ≤ k) : Bs w W' nb L A Da G2 av rv area recs := by
  obtain ⟨a1, a2, a3, a4, a5, a6⟩ := h
  have l2 := lt_of_block a2
  have l3 := lt_of_block a3
  have hw := a1.size
  refine ⟨a1.off hx fun k hk => ?_, hx.obj a2 fun hm => ?_, hx.obj a3 fun hm => ?_, fun k hk => ?_, a5, a6.ex hx (fun k hk => (h1 k hk).imp (fun h => by simp [h]) id) (fun k hk => ?_)⟩
  · rcases h1 k hk with h | h
    · exact (a4 k h).1
    · omega
  · rcases h1 _ hm with h | h
    · exact (a4 _ h).2.1 rfl
    · omega
  · rcases h1 _ hm with h | h
    · exact (a4 _ h).2.2 rfl
    · omega
  · rcases h2 k hk with h | h
    · exact a4 k h
    · exact ⟨by omega, by omega, by omega⟩
  · rcases List.mem_append.1 hk with hk | hk
    · exact (h2 k hk).imp (fun h => by simp [h]) id
    · exact .inl (by simp at hk; simp [hk])

theorem Bs.pure {w W W' : World} {nb L A Da : Nat} {G : List Nat} {av rv : Value} {area : List UInt8} {recs : List (List UInt8)} (h : Bs w W nb L A Da G av rv area recs) (hx : Ex [] W W') : Bs w W' nb L A Da G av rv area recs := h.ex hx (fun _ hk => by cases hk) fun _ hk => .inl hk

/-- Another model is stored into the variable. -/
theorem Bs.put {w W : World} {nb L A Da : Nat} {G : List Nat} {av rv av' rv' : Value} {area area' : List UInt8} {recs recs' : List (List UInt8)} (h : Bs w W nb L A Da G av rv area recs) (hm : Md W (G ++ [nb]) av' rv' area' recs') : Bs w ((W.setCell ⟨nb, 0, none⟩ av').setCell ⟨nb, 1, none⟩ rv') nb L A Da G av' rv' area' recs' := by
  obtain ⟨a1, a2, a3, a4, a5, a6⟩ := h
  have hx : Ex [nb] W ((W.setCell ⟨nb, 0, none⟩ av').setCell ⟨nb, 1, none⟩ rv') := ((Ex.refl [nb] W).setCell (.inl (by simp)) _).setCell (.inl (by simp)) _
  refine ⟨a1.off hx (by simp; omega), hx.obj a2 (by simp; omega), block_setCell (j := 1) (block_setCell (j := 0) a3), a4, a5, hm.ex hx (fun k hk => .inl (by simp at hk; simp [hk])) fun k hk => .inl hk⟩

theorem Bs.cells {w W : World} {nb L A Da : Nat} {G : List Nat} {av rv : Value} {area : List UInt8} {recs : List (List UInt8)} (h : Bs w W nb L A Da G av rv area recs) :
    W.cell? ⟨w.heap.size, 0, none⟩ = some (.int .i64 L) ∧ W.cell? ⟨w.heap.size, 1, none⟩ = some (.int .i64 A) ∧ W.cell? ⟨w.heap.size, 2, none⟩ = some (.int .i64 Da) ∧ W.cell? ⟨nb, 0, none⟩ = some av ∧ W.cell? ⟨nb, 1, none⟩ = some rv ∧ W.frozen? ⟨nb, 0, none⟩ = false ∧ W.frozen? ⟨nb, 1, none⟩ = false :=
  ⟨(cell_of_block h.2.1).trans rfl, (cell_of_block h.2.1).trans rfl, (cell_of_block h.2.1).trans rfl, (cell_of_block h.2.2.1).trans rfl, (cell_of_block h.2.2.1).trans rfl, free_of_block h.2.2.1, free_of_block h.2.2.1⟩

/-- A journal and its device, up, with nothing pending. -/
def Jr (W : World) (J D L A Da : Nat) (F : List Nat) (d : Dv) (h : Hd) (recs : List (List UInt8)) (area : List UInt8) : Prop :=
  JnAt W J D h L A Da false ∧ DevAt W D F d ∧ d.down = false ∧ d.pend = [] ∧ St d.kept L A Da h recs area ∧ J ∉ F

theorem Jr.pure {W W' : World} {J D L A Da : Nat} {F : List Nat} {d : Dv} {h : Hd} {recs : List (List UInt8)} {area : List UInt8} (hj : Jr W J D L A Da F d h recs area) (hx : Ex [] W W') : Jr W' J D L A Da F d h recs area :=
  ⟨hj.1.pure hx (by simp), hj.2.1.pure hx, hj.2.2⟩

/-- Behind a look. -/
theorem Jr.look {W W' : World} {J D L A Da : Nat} {F : List Nat} {d : Dv} {h : Hd} {recs : List (List UInt8)} {area : List UInt8} (hj : Jr W J D L A Da F d h recs area) (h1 : JnAt W' J D h L A Da false) (hx : Ex [J] W W') : Jr W' J D L A Da F d h recs area :=
  ⟨h1, hj.2.1.ex hx (fun k hk hm => by simp at hm; subst hm; exact hj.2.2.2.2.2 hk), hj.2.2⟩

/-- The same journal is asked. -/
theorem is_jr (W : World) (J D L A Da : Nat) (F : List Nat) (d : Dv) (h : Hd) (jr : List (List UInt8)) (ja : List UInt8) (av rv : Value) (area : List UInt8) (recs : List (List UInt8)) (b : Bool) (hs : shapeOk L A Da) (hj : Jr W J D L A Da F d h jr ja) (hm : Md W (J :: F) av rv area recs) (hal : area.length ≤ 1000000 ∧ recs.length ≤ 1000000 ∧ ∀ r ∈ recs, r.length ≤ 1000000) (hb : decide (ja = area ∧ jr = recs) = b) :
    Calls Tryz.prog 16 #[.agg #[av, rv], .pointer (some ⟨J, 0, none⟩)] W (Isd W J D L A Da h b) := by
  rw [← hb]
  exact is_any W J D L A Da F d h jr ja av rv area recs hs hj.1 hj.2.1 hj.2.2.1 hj.2.2.2.1 hj.2.2.2.2.1 hj.2.2.2.2.2 hm hal.1 hal.2.1 hal.2.2

/-- What holds at the head of each round. -/
def Inv (w W : World) (nb J D L A Da : Nat) (F : List Nat) (d : Dv) (h : Hd) (recs : List (List UInt8)) (area : List UInt8) (av rv : Value) : Prop :=
  Bs w W nb L A Da (J :: F) av rv area recs ∧ Jr W J D L A Da F d h recs area

theorem Md.less {W : World} {G X : List Nat} {av rv : Value} {area : List UInt8} {recs : List (List UInt8)} (h : Md W (G ++ X) av rv area recs) : Md W G av rv area recs :=
  h.ex (Ex.refl [] W) (fun _ hk => by cases hk) fun k hk => .inl (by simp [hk])

/-- Behind a crash: the journal that was opened anew, the model that is now, and the one that there would be. -/
def Xs (w W : World) (nb tb J D L A Da : Nat) (F : List Nat) (d : Dv) (h : Hd) (jr : List (List UInt8)) (ja : List UInt8) (av rv : Value) (area : List UInt8) (recs : List (List UInt8)) (av' rv' : Value) (area' : List UInt8) (recs' : List (List UInt8)) : Prop :=
  Bs w W nb L A Da (J :: F) av rv area recs ∧ Md W ((J :: F) ++ [nb]) av' rv' area' recs' ∧ W.heap[tb]? = some (.cells #[av', rv'] 40 (0, 0)) ∧ tb ∉ J :: F ∧ Jr W J D L A Da F d h jr ja

theorem Xs.look {w W W' : World} {nb tb J D L A Da : Nat} {F : List Nat} {d : Dv} {h : Hd} {jr : List (List UInt8)} {ja : List UInt8} {av rv av' rv' : Value} {area area' : List UInt8} {recs recs' : List (List UInt8)} (hx : Xs w W nb tb J D L A Da F d h jr ja av rv area recs av' rv' area' recs') (hj : JnAt W' J D h L A Da false) (he : Ex [J] W W') : Xs w W' nb tb J D L A Da F d h jr ja av rv area recs av' rv' area' recs' :=
  ⟨hx.1.ex he (fun k hk => .inl (by simp at hk; simp [hk])) (fun _ hk => .inl hk), hx.2.1.ex he (fun k hk => .inl (by simp at hk; simp [hk])) (fun _ hk => .inl hk), he.obj hx.2.2.1 (fun hm => hx.2.2.2.1 (by simp at hm; simp [hm])), hx.2.2.2.1, hx.2.2.2.2.look hj he⟩

theorem Xs.cells {w W : World} {nb tb J D L A Da : Nat} {F : List Nat} {d : Dv} {h : Hd} {jr : List (List UInt8)} {ja : List UInt8} {av rv av' rv' : Value} {area area' : List UInt8} {recs recs' : List (List UInt8)} (hx : Xs w W nb tb J D L A Da F d h jr ja av rv area recs av' rv' area' recs') :
    W.cell? ⟨tb, 0, none⟩ = some av' ∧ W.cell? ⟨tb, 1, none⟩ = some rv' := ⟨(cell_of_block hx.2.2.1).trans rfl, (cell_of_block hx.2.2.1).trans rfl⟩

/-- It is put. -/
theorem Xs.put {w W : World} {nb tb J D L A Da : Nat} {F : List Nat} {d : Dv} {h : Hd} {jr : List (List UInt8)} {ja : List UInt8} {av rv av' rv' : Value} {area area' : List UInt8} {recs recs' : List (List UInt8)} (hx : Xs w W nb tb J D L A Da F d h jr ja av rv area recs av' rv' area' recs') (he : ja = area' ∧ jr = recs') :
    Inv w ((W.setCell ⟨nb, 0, none⟩ av').setCell ⟨nb, 1, none⟩ rv') nb J D L A Da F d h jr ja av' rv' := by
  have hx4 : Ex [nb] W ((W.setCell ⟨nb, 0, none⟩ av').setCell ⟨nb, 1, none⟩ rv') := ((Ex.refl [nb] W).setCell (.inl (by simp)) _).setCell (.inl (by simp)) _
  have hnF : nb ∉ J :: F := fun hm => (hx.1.2.2.2.1 nb hm).2.2 rfl
  obtain ⟨hj1, hj2, hj3⟩ := hx.2.2.2.2
  obtain ⟨rfl, rfl⟩ := he
  exact ⟨hx.1.put hx.2.1, hj1.pure hx4 (by simp; rintro rfl; exact hnF (by simp)), hj2.ex hx4 (fun k hk hm => by simp at hm; subst hm; exact hnF (by simp [hk])), hj3⟩

theorem Xs.keep {w W : World} {nb tb J D L A Da : Nat} {F : List Nat} {d : Dv} {h : Hd} {jr : List (List UInt8)} {ja : List UInt8} {av rv av' rv' : Value} {area area' : List UInt8} {recs recs' : List (List UInt8)} (hx : Xs w W nb tb J D L A Da F d h jr ja av rv area recs av' rv' area' recs') (he : ja = area ∧ jr = recs) :
    Inv w W nb J D L A Da F d h jr ja av rv := by
  obtain ⟨rfl, rfl⟩ := he
  exact ⟨hx.1, hx.2.2.2.2⟩

/-- The now model, the then model, are asked. -/
theorem Xs.now {w W : World} {nb tb J D L A Da : Nat} {F : List Nat} {d : Dv} {h : Hd} {jr : List (List UInt8)} {ja : List UInt8} {av rv av' rv' : Value} {area area' : List UInt8} {recs recs' : List (List UInt8)} {b : Bool} (hs : shapeOk L A Da) (hx : Xs w W nb tb J D L A Da F d h jr ja av rv area recs av' rv' area' recs') (hal : area.length ≤ 1000000 ∧ recs.length ≤ 1000000 ∧ ∀ r ∈ recs, r.length ≤ 1000000) (hb : decide (ja = area ∧ jr = recs) = b) :
    Calls Tryz.prog 16 #[.agg #[av, rv], .pointer (some ⟨J, 0, none⟩)] W fun e W' => e = .returned (.bool b) ∧ Xs w W' nb tb J D L A Da F d h jr ja av rv area recs av' rv' area' recs' :=
  (is_jr W J D L A Da F d h jr ja av rv area recs b hs hx.2.2.2.2 hx.1.2.2.2.2.2.less hal hb).mono fun e W' ⟨h1, h2, h3⟩ => ⟨h1, hx.look h2 h3⟩

theorem Xs.next {w W : World} {nb tb J D L A Da : Nat} {F : List Nat} {d : Dv} {h : Hd} {jr : List (List UInt8)} {ja : List UInt8} {av rv av' rv' : Value} {area area' : List UInt8} {recs recs' : List (List UInt8)} {b : Bool} (hs : shapeOk L A Da) (hx : Xs w W nb tb J D L A Da F d h jr ja av rv area recs av' rv' area' recs') (hal : area'.length ≤ 1000000 ∧ recs'.length ≤ 1000000 ∧ ∀ r ∈ recs', r.length ≤ 1000000) (hb : decide (ja = area' ∧ jr = recs') = b) :
    Calls Tryz.prog 16 #[.agg #[av', rv'], .pointer (some ⟨J, 0, none⟩)] W fun e W' => e = .returned (.bool b) ∧ Xs w W' nb tb J D L A Da F d h jr ja av rv area recs av' rv' area' recs' :=
  (is_jr W J D L A Da F d h jr ja av' rv' area' recs' b hs hx.2.2.2.2 hx.2.1.less hal hb).mono fun e W' ⟨h1, h2, h3⟩ => ⟨h1, hx.look h2 h3⟩
end Go.Proofs.YtckmpdplmpgniaaGreat
