/- The chapter's example: it is as it says. No condition. -/
import Derived.Test.YtckmpdplmpgniaaGreatLawC
import Derived.Lib.SlBytesConst
namespace Go.Proofs.YtckmpdplmpgniaaGreat
open Go Go.RowKit

/-- Append of one byte, which the call has made. -/
theorem append_one {w W : World} {P D E J : Nat} {rv : Value} {F : List Nat} {d : Dv} {h g : Hd} {n : Nat} (hl : Live w W P D E J rv F d h false) (c : UInt8) (t : TypeId) (hu : d.down = false) (hp : d.pend = []) (hn : d.kept.length = 6) (hok : h.ok) (hr : h.round < 1099511627776) (hfit : h.used + (txt [c]).length ≤ 2 * 64)
    (hg : h.app [c] = g) (hpe : (d.did 1 h.used (txt [c]) g).1 = n) :
    Calls Tryz.prog 22 #[.pointer (some ⟨J, 0, none⟩), .slice (some ⟨W.heap.size, 0, none⟩) 1 1] (W.alloc (.cells #[.int .u8 (c.toNat : Int)] t (1, 2))) fun x W' => x = .returned (.int .i64 n) ∧ ∃ F', Live w W' P D E J rv F' (d.did 1 h.used (txt [c]) g).2 (if n = 0 then g else h) (decide (n ≠ 0)) := by
  have hl' := hl.pure ((Ex.refl [] W).alloc (.cells #[.int .u8 (c.toNat : Int)] t (1, 2)))
  have hrd : RdB (W.alloc (.cells #[.int .u8 (c.toNat : Int)] t (1, 2))) (.slice (some ⟨W.heap.size, 0, none⟩) 1 1) [c] := by
    refine ⟨rfl, _, 1, rfl, Nat.le_refl _, by decide, by simp, fun _ => ⟨W.heap.size, 0, rfl, fun j u hj => ?_⟩⟩
    rw [World.cell?_alloc_mark, Nat.zero_add]
    simpa [encB] using hj
  refine (Append_up _ J D 2 1 1 F d h _ [c] ex_ok hl'.2.2.1 hl'.2.2.2.1 hu hp (by rw [hn]; decide) hok hr hrd (fun _ => by simp [bk, Value.ownBlock]) hl'.2.2.2.2.1 hfit).mono ?_
  rintro x W' hc
  rw [hg] at hc
  have hx := hc.1
  rw [hpe] at hx
  obtain ⟨F', hl2⟩ := hl'.counted hc
  rw [hpe] at hl2
  exact ⟨hx, F', hl2⟩

/-- What a journal tells, the second record at hand. -/
theorem second_is {W : World} {base : Nat} {u : Value} {ts : List (Value × List UInt8)} {n : Nat} (h : Lst W base u ts) (hl : ts.length = n + 2) (h1 : (ts.map Prod.snd)[1]? = some [98]) :
    ∃ g cap a c, u = .slice (some ⟨g, 0, none⟩) (n + 2) cap ∧ W.cell? ⟨g, 1, none⟩ = some (.slice (some ⟨a, 0, none⟩) 1 c) ∧ W.cell? ⟨a, 0, none⟩ = some (.int .u8 98) := by
  obtain ⟨ho, _, ht⟩ := h
  rw [hl] at ho
  obtain ⟨_, a0, cap, rfl, _⟩ := rd_of_owns ho
  obtain ⟨g, rfl⟩ := own_some ho (by omega)
  have hlt : 1 < ts.length := by omega
  have h2 : ts[1].2 = [98] := by
    rw [List.getElem?_map, List.getElem?_eq_getElem hlt] at h1
    simpa using h1
  obtain ⟨hto, _⟩ := ht ts[1] (List.getElem_mem hlt)
  rw [h2] at hto
  obtain ⟨_, a1, c1, hv1, _⟩ := rd_of_owns hto
  rw [hv1] at hto
  obtain ⟨a, rfl⟩ := own_some hto (by decide)
  obtain ⟨b, o, hbo, hc⟩ := (rd_of_owns ho).at (by omega)
  cases hbo
  obtain ⟨b', o', hbo', hc'⟩ := (rd_of_owns hto).at (by decide)
  cases hbo'
  refine ⟨g, cap, a, c1, rfl, ?_, ?_⟩
  · have := hc 1 ts[1].1 (by rw [List.getElem?_map, List.getElem?_eq_getElem hlt]; rfl)
    rw [hv1] at this
    simpa using this
  · have := hc' 0 _ rfl
    simpa using this

theorem conv98 (W : World) (a c : Nat) (h : W.cell? ⟨a, 0, none⟩ = some (.int .u8 98)) : (convert 37 9 (.slice (some ⟨a, 0, none⟩) 1 c)).run Tryz.prog W = .ok (.string ⟨#[98]⟩) W :=
  run_convert_bytes_back (P := Tryz.prog) W 37 9 5 ⟨a, 0, none⟩ c [98] Tryz.underlying37 Tryz.underlying5 Tryz.underlying9 fun j hj => by
    obtain rfl : j = 0 := by simp at hj; omega
    exact h

set_option maxRecDepth 100000 in
set_option maxHeartbeats 8000000 in
theorem awake_true (w : World) : Calls Tryz.prog 6 #[] w fun x w' => x = .returned (.bool true) ∧ Ex [] w w' := by
  have hcc := fun (w : World) (C : Array Value) (n c : Nat) => Lib.run_convert_bytes_const (P := Tryz.prog) w 37 5 C n c Tryz.underlying37 Tryz.underlying5
  go_enter Tryz.func6, Tryz.ntmps6
  go_wp2_with fail
  have hb0 := heap_alloc_new w (.cells #[.int .i64 2, .int .i64 1, .int .i64 1] 23)
  have H0 := Lib.hid (And.intro ((Ex.refl [] w).alloc (.cells #[.int .i64 2, .int .i64 1, .int .i64 1] 23)) hb0)
  clear hb0
  generalize w.alloc (.cells #[.int .i64 2, .int .i64 1, .int .i64 1] 23) = w0 at *
  go_loopw [2] (fun i wr => ∃ k : Nat, k ≤ 2 ∧ i = .int .i64 k ∧ Hid (Ex [] w wr ∧ wr.heap[w.heap.size]? = some (.cells #[.int .i64 2, .int .i64 1, .int .i64 1] 23 (0, 0)))) (fun i _ => 2 - (intOf i).toNat)
  case atStart => exact ⟨0, by decide, rfl, H0.out⟩
  case round =>
    obtain ⟨k, hk, rfl, HR⟩ := hrel
    have b0 : wr.cell? ⟨w.heap.size, 0, none⟩ = some (.int .i64 2) := by rw [cell_of_block HR.out.2]; rfl
    have b1 : wr.cell? ⟨w.heap.size, 1, none⟩ = some (.int .i64 1) := by rw [cell_of_block HR.out.2]; rfl
    have b2 : wr.cell? ⟨w.heap.size, 2, none⟩ = some (.int .i64 1) := by rw [cell_of_block HR.out.2]; rfl
    have h012 : k = 0 ∨ k = 1 ∨ k = 2 := by omega
    rcases h012 with rfl | rfl | rfl
    · simp only [Int.cast_ofNat_Int]
      go_wp2_with fail
      refine (begin_ex wr).mono ?_
      rintro x W1 ⟨P, D, E, J, R, F, rfl, hbt, hjn, hdv, hJF, hPF, hPJ, hP, hJ, hF, hx⟩
      have HL1 := Lib.hid (show Live wr W1 P D E J (.pointer (some ⟨R, 0, none⟩)) F dev6 xh0 false from ⟨hx, hbt, hjn, hdv, hJF, hPF, hPJ, hP, hJ, hF⟩)
      have c4 := HL1.out.cells.2
      clear b0 b1 b2 hbt hjn hdv hJF hPF hPJ hP hJ hF hx
      go_wp2_with fail
      refine (append_one (g := xh1) (n := 0) HL1.out 97 _ dev6_st.2.1 dev6_st.2.2.1 dev6_kept dev6_st.2.2.2.2.ok (by decide) (by decide) rfl x1.1).mono ?_
      rintro x W2 ⟨rfl, F2, hl⟩
      have HL2 := Lib.hid (show Live wr W2 P D E J (.pointer (some ⟨R, 0, none⟩)) F2 xd1 xh1 false from hl)
      clear c4 hl
      have c4 := HL2.out.cells.2
      go_wp2_with fail
      refine (append_one (g := xh2) (n := 0) HL2.out 98 _ x1.2.1 x1.2.2.1 x1.2.2.2.1 xok1 (by decide) (by decide) rfl x2.1).mono ?_
      rintro x W3 ⟨rfl, F3, hl⟩
      have HL3 := Lib.hid (show Live wr W3 P D E J (.pointer (some ⟨R, 0, none⟩)) F3 xd2 xh2 false from hl)
      clear c4 hl
      have c3 := HL3.out.cells.1
      go_wp2_with fail
      refine (Fuse_up W3 D F3 xd2 4 (by decide) x2.2.1 HL3.out.2.2.2.1).mono ?_
      rintro x W4 ⟨rfl, hdv⟩
      obtain ⟨F4, hl⟩ := HL3.out.dev hdv
      have HL4 := Lib.hid (show Live wr W4 P D E J (.pointer (some ⟨R, 0, none⟩)) F4 xd3 xh2 false from hl)
      clear c3 hdv hl
      have c4 := HL4.out.cells.2
      go_wp2_with fail
      refine (append_one (g := xh3) (n := 10) HL4.out 99 _ x3.1 x3.2.1 x3.2.2 xok2 (by decide) (by decide) rfl x4.1).mono ?_
      rintro x W5 ⟨rfl, F5, hl⟩
      have HL5 := Lib.hid (show Live wr W5 P D E J (.pointer (some ⟨R, 0, none⟩)) F5 xd4 xh2 true from hl)
      clear c4 hl
      have c3 := HL5.out.cells.1
      go_wp2_with fail
      refine (Wake_any W5 D F5 xd4 0 (by rw [x4.2]; decide) HL5.out.2.2.2.1).mono ?_
      rw [x5.1]
      rintro x W6 ⟨rfl, hdv⟩
      obtain ⟨F6, hl⟩ := HL5.out.dev hdv
      have HL6 := Lib.hid (show Live wr W6 P D E J (.pointer (some ⟨R, 0, none⟩)) F6 (xd5 0) xh2 true from hl)
      clear c3 hdv hl
      go_wp2_with fail
      refine (reopened_ex W6 P D E _ _ F6 (xd5 0) xh2 [[97], [98]] HL6.out.2.1 HL6.out.2.2.2.1 x5.2.1 (by rw [x5.2.2.1]; decide) (by rw [x5.2.2.2]; decide) xs5).mono ?_
      rintro x W7 ⟨rfl, J', hb7, hj7, hJ7, hx7⟩
      have c4 := hb7.cells.2.2.2.2.1
      have hd7 := HL6.out.2.2.2.1.ex hx7 (fun k hk hm => by simp at hm; subst hm; exact HL6.out.2.2.2.2.2.1 hk)
      have hxx : Ex [] wr W7 := HL6.out.1.off hx7 (by have h0 := HL6.out.2.2.2.2.2.2.2.1; simpa using h0)
      have hJw : wr.heap.size ≤ J' := Nat.le_trans HL6.out.1.size hJ7
      have H7 := Lib.hid (And.intro hj7 (And.intro hd7 (And.intro hxx hJw)))
      clear hb7 hj7 hJ7 hx7 hd7 hxx hJw
      go_wp2_with fail
      refine (Records_good W7 J' D 2 1 1 F6 (xd5 0) xh2 [[97], [98]] ex_ok H7.out.1 H7.out.2.1 x5.2.1 (by rw [x5.2.2.1]; decide) (by rw [x5.2.2.2]; decide) (by decide) xs5.log).mono ?_
      rintro x W8 ⟨u, ts, rfl, hts, hls, hj8, hx8⟩
      have hlen : ts.length = 0 + 2 := by have := congrArg List.length hts; simpa using this
      obtain ⟨g, cap, a, c, rfl, q1, q2⟩ := second_is hls hlen (by rw [hts]; rfl)
      have hcv := conv98 W8 a c q2
      have H8 := Lib.hid (H7.out.2.2.1.off hx8 (by have h0 := H7.out.2.2.2; simpa using h0))
      clear hts hls hj8 hx8 hlen c4 q2
      go_wp2_with fail
      go_roundw
      case rel => exact ⟨1, by decide, rfl, HR.out.1.pure H8.out, H8.out.obj HR.out.2 (by simp)⟩
      case measure => simp [intOf]
    · simp only [Int.cast_ofNat_Int]
      go_wp2_with fail
      refine (begin_ex wr).mono ?_
      rintro x W1 ⟨P, D, E, J, R, F, rfl, hbt, hjn, hdv, hJF, hPF, hPJ, hP, hJ, hF, hx⟩
      have HL1 := Lib.hid (show Live wr W1 P D E J (.pointer (some ⟨R, 0, none⟩)) F dev6 xh0 false from ⟨hx, hbt, hjn, hdv, hJF, hPF, hPJ, hP, hJ, hF⟩)
      have c4 := HL1.out.cells.2
      clear b0 b1 b2 hbt hjn hdv hJF hPF hPJ hP hJ hF hx
      go_wp2_with fail
      refine (append_one (g := xh1) (n := 0) HL1.out 97 _ dev6_st.2.1 dev6_st.2.2.1 dev6_kept dev6_st.2.2.2.2.ok (by decide) (by decide) rfl x1.1).mono ?_
      rintro x W2 ⟨rfl, F2, hl⟩
      have HL2 := Lib.hid (show Live wr W2 P D E J (.pointer (some ⟨R, 0, none⟩)) F2 xd1 xh1 false from hl)
      clear c4 hl
      have c4 := HL2.out.cells.2
      go_wp2_with fail
      refine (append_one (g := xh2) (n := 0) HL2.out 98 _ x1.2.1 x1.2.2.1 x1.2.2.2.1 xok1 (by decide) (by decide) rfl x2.1).mono ?_
      rintro x W3 ⟨rfl, F3, hl⟩
      have HL3 := Lib.hid (show Live wr W3 P D E J (.pointer (some ⟨R, 0, none⟩)) F3 xd2 xh2 false from hl)
      clear c4 hl
      have c3 := HL3.out.cells.1
      go_wp2_with fail
      refine (Fuse_up W3 D F3 xd2 4 (by decide) x2.2.1 HL3.out.2.2.2.1).mono ?_
      rintro x W4 ⟨rfl, hdv⟩
      obtain ⟨F4, hl⟩ := HL3.out.dev hdv
      have HL4 := Lib.hid (show Live wr W4 P D E J (.pointer (some ⟨R, 0, none⟩)) F4 xd3 xh2 false from hl)
      clear c3 hdv hl
      have c4 := HL4.out.cells.2
      go_wp2_with fail
      refine (append_one (g := xh3) (n := 10) HL4.out 99 _ x3.1 x3.2.1 x3.2.2 xok2 (by decide) (by decide) rfl x4.1).mono ?_
      rintro x W5 ⟨rfl, F5, hl⟩
      have HL5 := Lib.hid (show Live wr W5 P D E J (.pointer (some ⟨R, 0, none⟩)) F5 xd4 xh2 true from hl)
      clear c4 hl
      have c3 := HL5.out.cells.1
      go_wp2_with fail
      refine (Wake_any W5 D F5 xd4 1 (by rw [x4.2]; decide) HL5.out.2.2.2.1).mono ?_
      rw [x6.1]
      rintro x W6 ⟨rfl, hdv⟩
      obtain ⟨F6, hl⟩ := HL5.out.dev hdv
      have HL6 := Lib.hid (show Live wr W6 P D E J (.pointer (some ⟨R, 0, none⟩)) F6 (xd5 1) xh2 true from hl)
      clear c3 hdv hl
      go_wp2_with fail
      refine (reopened_ex W6 P D E _ _ F6 (xd5 1) xh3 [[97], [98], [99]] HL6.out.2.1 HL6.out.2.2.2.1 x6.2.1 (by rw [x6.2.2.1]; decide) (by rw [x6.2.2.2]; decide) xs6).mono ?_
      rintro x W7 ⟨rfl, J', hb7, hj7, hJ7, hx7⟩
      have c4 := hb7.cells.2.2.2.2.1
      have hd7 := HL6.out.2.2.2.1.ex hx7 (fun k hk hm => by simp at hm; subst hm; exact HL6.out.2.2.2.2.2.1 hk)
      have hxx : Ex [] wr W7 := HL6.out.1.off hx7 (by have h0 := HL6.out.2.2.2.2.2.2.2.1; simpa using h0)
      have hJw : wr.heap.size ≤ J' := Nat.le_trans HL6.out.1.size hJ7
      have H7 := Lib.hid (And.intro hj7 (And.intro hd7 (And.intro hxx hJw)))
      clear hb7 hj7 hJ7 hx7 hd7 hxx hJw
      go_wp2_with fail
      refine (Records_good W7 J' D 2 1 1 F6 (xd5 1) xh3 [[97], [98], [99]] ex_ok H7.out.1 H7.out.2.1 x6.2.1 (by rw [x6.2.2.1]; decide) (by rw [x6.2.2.2]; decide) (by decide) xs6.log).mono ?_
      rintro x W8 ⟨u, ts, rfl, hts, hls, hj8, hx8⟩
      have hlen : ts.length = 1 + 2 := by have := congrArg List.length hts; simpa using this
      obtain ⟨g, cap, a, c, rfl, q1, q2⟩ := second_is hls hlen (by rw [hts]; rfl)
      have hcv := conv98 W8 a c q2
      have H8 := Lib.hid (H7.out.2.2.1.off hx8 (by have h0 := H7.out.2.2.2; simpa using h0))
      clear hts hls hj8 hx8 hlen c4 q2
      go_wp2_with fail
      go_roundw
      case rel => exact ⟨2, by decide, rfl, HR.out.1.pure H8.out, H8.out.obj HR.out.2 (by simp)⟩
      case measure => simp [intOf]
    · simp only [Int.cast_ofNat_Int]
      go_wp2_with fail
      go_ret
      exact ⟨rfl, HR.out.1⟩
end Go.Proofs.YtckmpdplmpgniaaGreat
