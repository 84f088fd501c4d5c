/- What a write, a flush and a head leave on a device, whatever goes wrong on the way: plain laws on the journal's plain data. -/
import Derived.Test.YtckmpdplmpgniaaGreatLogJ
import Derived.Test.YtckmpdplmpgniaaGreatPlain
namespace Go.Proofs.YtckmpdplmpgniaaGreat

/-- Writes of sectors one behind the other. -/
def idx : Nat → List (List UInt8) → List (Nat × List UInt8)
  | _, [] => []
  | n, b :: l => (n, b) :: idx (n + 1) l

theorem idx_length (n : Nat) (bs : List (List UInt8)) : (idx n bs).length = bs.length := by
  induction bs generalizing n with
  | nil => rfl
  | cons b l ih => simp [idx, ih]

theorem pad64_full (b : List UInt8) (h : b.length = 64) : pad64 b = b := by simp [pad64, h]

theorem Dv.write_is (d : Dv) (n : Nat) (b : List UInt8) (hd : d.down = false) (hn : n < d.kept.length) (hb : b.length ≤ 64) :
    d.write n b = if d.fuse = 1 then (10, { d with fuse := 0, down := true }) else (0, { d with fuse := d.fuse - 1, pend := d.pend ++ [(n, pad64 b)] }) := by
  unfold Dv.write
  rw [if_neg (by simp [hd]), if_pos ⟨by simp only [Dv.has]; exact decide_eq_true ⟨by omega, by omega⟩, hb⟩]
  rfl

theorem puts_spec (bs : List (List UInt8)) (n : Nat) (d : Dv) (hd : d.down = false) (hl : ∀ b ∈ bs, b.length = 64) (hn : n + bs.length ≤ d.kept.length) :
    ∃ m, m ≤ bs.length ∧ (d.puts n bs).2.kept = d.kept ∧ (d.puts n bs).2.pend = d.pend ++ idx n (bs.take m) ∧
      ((d.puts n bs).1 = 0 ∧ m = bs.length ∧ (d.puts n bs).2.down = false ∧ (d.fuse = 0 → (d.puts n bs).2.fuse = 0) ∨ (d.puts n bs).1 = 10 ∧ (d.puts n bs).2.down = true ∧ d.fuse ≠ 0) := by
  induction bs generalizing n d with
  | nil => exact ⟨0, Nat.le_refl _, rfl, by simp [idx, Dv.puts], .inl ⟨rfl, rfl, hd, id⟩⟩
  | cons b l ih =>
    have hb := hl b (by simp)
    simp only [List.length_cons] at hn
    have hw := d.write_is n b hd (by omega) (by omega)
    by_cases hf : d.fuse = 1
    · rw [if_pos hf] at hw
      have hpz : d.puts n (b :: l) = (10, { d with fuse := 0, down := true }) := by simp [Dv.puts, hw]
      rw [hpz]
      exact ⟨0, by omega, rfl, by simp [idx], .inr ⟨rfl, rfl, by omega⟩⟩
    · rw [if_neg hf, pad64_full b hb] at hw
      have hpz : d.puts n (b :: l) = Dv.puts { d with fuse := d.fuse - 1, pend := d.pend ++ [(n, b)] } (n + 1) l := by simp [Dv.puts, hw]
      rw [hpz]
      obtain ⟨m, h1, h2, h3, h4⟩ := ih (n + 1) { d with fuse := d.fuse - 1, pend := d.pend ++ [(n, b)] } hd (fun c hc => hl c (by simp [hc])) (by show n + 1 + l.length ≤ d.kept.length; omega)
      refine ⟨m + 1, by simp only [List.length_cons]; omega, h2, ?_, ?_⟩
      · rw [h3]
        simp [idx, List.take_succ_cons]
      · rcases h4 with ⟨a1, a2, a3, a4⟩ | ⟨a1, a2, a3⟩
        · exact .inl ⟨a1, by simp only [List.length_cons]; omega, a3, fun h0 => a4 (by show d.fuse - 1 = 0; omega)⟩
        · exact .inr ⟨a1, a2, fun h0 => a3 (by show d.fuse - 1 = 0; omega)⟩

theorem settled_get (f : Nat → Bool) (k n : Nat) (bs K : List (List UInt8)) (i : Nat) :
    (settled f k (idx n bs) K)[i]? = if n ≤ i ∧ i < n + bs.length ∧ i < K.length ∧ f (k + (i - n)) = true then bs[i - n]? else K[i]? := by
  induction bs generalizing k n K with
  | nil => rw [if_neg (by simp; omega)]; rfl
  | cons b l ih =>
    rw [idx, settled, ih]
    have hlen : (if f k = true then K.set n b else K).length = K.length := by split <;> simp
    simp only [hlen, List.length_cons]
    by_cases hi : i = n
    · subst hi
      rw [if_neg (by omega)]
      by_cases hf : f k = true
      · rw [if_pos hf]
        by_cases hK : i < K.length
        · rw [if_pos ⟨Nat.le_refl _, by omega, hK, by simpa using hf⟩, List.getElem?_set_self hK]
          simp
        · rw [if_neg (by omega), List.getElem?_eq_none (by simpa using hK), List.getElem?_eq_none (by omega)]
      · rw [if_neg hf, if_neg (by simp; intros; simpa using hf)]
    · have hset : (if f k = true then K.set n b else K)[i]? = K[i]? := by
        split
        · rw [List.getElem?_set_ne (fun e => hi e.symm)]
        · rfl
      rw [hset]
      by_cases hlo : n + 1 ≤ i
      · have e1 : k + 1 + (i - (n + 1)) = k + (i - n) := by omega
        have e2 : i - n = (i - (n + 1)) + 1 := by omega
        rw [e1]
        have e3 : (b :: l)[i - n]? = l[i - (n + 1)]? := by rw [e2]; simp
        rw [e3]
        by_cases hc : i < n + 1 + l.length ∧ i < K.length ∧ f (k + (i - n)) = true
        · rw [if_pos ⟨hlo, hc⟩, if_pos ⟨by omega, by omega, hc.2⟩]
        · rw [if_neg (fun h => hc h.2), if_neg (fun h => hc ⟨by omega, h.2.2⟩)]
      · rw [if_neg (by omega), if_neg (by omega)]

/-- A byte of what lies from a sector on. -/
def byt (K : List (List UInt8)) (f i : Nat) : UInt8 := (K.getD (f + i / 64) []).getD (i % 64) 0
/-- So many bytes from a sector on. -/
def bytesK (K : List (List UInt8)) (f many : Nat) : List UInt8 := (List.range many).map (byt K f)

theorem bytesK_length (K : List (List UInt8)) (f many : Nat) : (bytesK K f many).length = many := by simp [bytesK]

theorem bytesK_congr {K K' : List (List UInt8)} {f f' many : Nat} (h : ∀ i < many, byt K f i = byt K' f' i) : bytesK K f many = bytesK K' f' many :=
  List.map_congr_left fun i hi => h i (List.mem_range.1 hi)

theorem bytesK_add (K : List (List UInt8)) (f a n : Nat) : bytesK K f (a + n) = bytesK K f a ++ (List.range n).map fun j => byt K f (a + j) := by
  simp only [bytesK, List.range_add, List.map_append, List.map_map]
  rfl

theorem list_of_get (b : List UInt8) (g : Nat → UInt8) (h : ∀ j < b.length, g j = b.getD j 0) : (List.range b.length).map g = b := by
  apply List.ext_getElem
  · simp
  · intro i h1 h2
    simp only [List.getElem_map, List.getElem_range]
    rw [h i h2]
    simp [List.getD, List.getElem?_eq_getElem h2]

theorem run_bytesK (d : Dv) (hp : d.pend = []) (hk : ∀ s ∈ d.kept, s.length = 64) (f k : Nat) (hf : f + k ≤ d.kept.length) : d.run f k = bytesK d.kept f (64 * k) := by
  induction k with
  | zero => rfl
  | succ k ih =>
    rw [Dv.run_succ, ih (by omega), Nat.mul_succ, bytesK_add]
    congr 1
    have hs : d.seen (f + k) = d.kept.getD (f + k) [] := by simp [Dv.seen, hp]
    have hlt : f + k < d.kept.length := by omega
    have hl : (d.seen (f + k)).length = 64 := by
      rw [hs, List.getD, List.getElem?_eq_getElem hlt]
      exact hk _ (List.getElem_mem hlt)
    rw [← hl]
    refine (list_of_get _ _ fun j hj => ?_).symm
    rw [hl] at hj
    unfold byt
    rw [hl, show (64 * k + j) / 64 = k from by omega, show (64 * k + j) % 64 = j from by omega, hs]

theorem bytes_K (d : Dv) (hp : d.pend = []) (hk : ∀ s ∈ d.kept, s.length = 64) (f many : Nat) (hf : f + (many + 63) / 64 ≤ d.kept.length) : d.bytes f many = bytesK d.kept f many := by
  unfold Dv.bytes
  rw [run_bytesK d hp hk f _ hf]
  unfold bytesK
  rw [← List.map_take, List.take_range]
  congr 2
  omega

/-! ### What a write leaves -/

/-- A sector's bytes are as they were, or those of b lie over them. -/
def Kin (K K' : List (List UInt8)) (f at_ : Nat) (b : List UInt8) : Prop :=
  K'.length = K.length ∧ (∀ s ∈ K', s.length = 64) ∧ ∀ s, K'.getD s [] = K.getD s [] ∨ ∃ t, s = f + t ∧ at_ / 64 ≤ t ∧ 64 * t < at_ + b.length ∧ K'.getD s [] = mix (K.getD s []) t at_ b

/-- All of b lies there. -/
def Kfull (K K' : List (List UInt8)) (f at_ : Nat) (b : List UInt8) : Prop := ∀ t, at_ / 64 ≤ t → 64 * t < at_ + b.length → b ≠ [] → K'.getD (f + t) [] = mix (K.getD (f + t) []) t at_ b

theorem Kin.refl {K : List (List UInt8)} (hk : ∀ s ∈ K, s.length = 64) (f at_ : Nat) (b : List UInt8) : Kin K K f at_ b := ⟨rfl, hk, fun _ => .inl rfl⟩

theorem mix_getD (sh : List UInt8) (s at_ : Nat) (b : List UInt8) (i : Nat) (hi : i < 64) : (mix sh s at_ b).getD i 0 = if at_ ≤ 64 * s + i ∧ 64 * s + i < at_ + b.length then b.getD (64 * s + i - at_) 0 else sh.getD i 0 := by
  rw [List.getD, mix_get, if_pos hi]
  rfl

/-- Sectors of which b has nothing, and bytes before b, are as they were. -/
theorem Kin.byt {K K' : List (List UInt8)} {f at_ m : Nat} {b : List UInt8} (h : Kin K K' f at_ b) (hm : at_ + b.length ≤ m * 64) (f' i : Nat) (hs : f' + i / 64 < f ∨ f + m ≤ f' + i / 64 ∨ f' = f ∧ i < at_) : byt K' f' i = byt K f' i := by
  unfold Go.Proofs.YtckmpdplmpgniaaGreat.byt
  rcases h.2.2 (f' + i / 64) with h | ⟨t, h1, h2, h3, h4⟩
  · rw [h]
  · rcases hs with hs | hs | ⟨rfl, hs⟩
    · omega
    · omega
    · obtain rfl : t = i / 64 := by omega
      rw [h4, mix_getD _ _ _ _ _ (Nat.mod_lt _ (by decide)), if_neg (by omega)]

theorem Kfull.byt {K K' : List (List UInt8)} {f at_ : Nat} {b : List UInt8} (h : Kfull K K' f at_ b) (j : Nat) (hj : j < b.length) : byt K' f (at_ + j) = b.getD j 0 := by
  unfold Go.Proofs.YtckmpdplmpgniaaGreat.byt
  rw [h ((at_ + j) / 64) (by omega) (by omega) (fun e => by simp [e] at hj), mix_getD _ _ _ _ _ (Nat.mod_lt _ (by decide)), if_pos (by omega)]
  congr 1
  omega

theorem getD_of_get? {K K' : List (List UInt8)} {i : Nat} (h : K'[i]? = K[i]?) : K'.getD i [] = K.getD i [] := by simp only [List.getD, h]

/-- What the sectors' writes leave, as far as they are kept. -/
theorem kin_settled {d : Dv} (hp : d.pend = []) (hk : ∀ s ∈ d.kept, s.length = 64) {f at_ c m : Nat} {b : List UInt8} (hb : b ≠ []) (hc : c = (at_ + b.length - 1) / 64 - at_ / 64 + 1) (q : Nat → Bool) :
    Kin d.kept (settled q 0 (idx (f + at_ / 64) (((List.range c).map fun i => mix (d.seen (f + at_ / 64 + i)) (at_ / 64 + i) at_ b).take m)) d.kept) f at_ b := by
  have hbl : 0 < b.length := List.length_pos_iff.2 hb
  generalize hbs : ((List.range c).map fun i => mix (d.seen (f + at_ / 64 + i)) (at_ / 64 + i) at_ b).take m = bs
  have hl64 : ∀ s ∈ bs, s.length = 64 := by
    intro s hs
    rw [← hbs] at hs
    obtain ⟨i, _, rfl⟩ := List.mem_map.1 (List.mem_of_mem_take hs)
    exact mix_length _ _ _ _
  have hlen : bs.length ≤ c := by rw [← hbs]; simp; omega
  refine ⟨settled_length _ _ _ _, settled_mem _ _ _ _ hk ?_, fun s => ?_⟩
  · intro p hpm
    have : ∀ (n : Nat) (l : List (List UInt8)), (∀ s ∈ l, s.length = 64) → ∀ p ∈ idx n l, p.2.length = 64 := by
      intro n l
      induction l generalizing n with
      | nil => intro _ p hp; simp [idx] at hp
      | cons x l ih =>
        intro hl p hp
        simp only [idx, List.mem_cons] at hp
        rcases hp with rfl | hp
        · exact hl _ (by simp)
        · exact ih _ (fun s hs => hl s (by simp [hs])) p hp
    exact this _ _ hl64 p hpm
  · by_cases hc' : f + at_ / 64 ≤ s ∧ s < f + at_ / 64 + bs.length ∧ s < d.kept.length ∧ q (0 + (s - (f + at_ / 64))) = true
    · right
      obtain ⟨h1, h2, h3, h4⟩ := hc'
      refine ⟨s - f, by omega, by omega, by omega, ?_⟩
      have hg := settled_get q 0 (f + at_ / 64) bs d.kept s
      rw [if_pos ⟨h1, h2, h3, h4⟩] at hg
      rw [List.getD, hg, ← hbs]
      have hlt : s - (f + at_ / 64) < m := by rw [← hbs] at h2; simp at h2; omega
      have hltc : s - (f + at_ / 64) < c := by omega
      rw [List.getElem?_take_of_lt hlt, List.getElem?_map, List.getElem?_range hltc]
      simp only [Option.map_some, Option.getD_some]
      rw [show f + at_ / 64 + (s - (f + at_ / 64)) = s from by omega, show at_ / 64 + (s - (f + at_ / 64)) = s - f from by omega]
      congr 1
      simp [Dv.seen, hp]
    · left
      have hg := settled_get q 0 (f + at_ / 64) bs d.kept s
      rw [if_neg hc'] at hg
      exact getD_of_get? hg

theorem kfull_settled {d : Dv} (hp : d.pend = []) {f at_ c m : Nat} {b : List UInt8} (hc : c = (at_ + b.length - 1) / 64 - at_ / 64 + 1) (hf : f + m ≤ d.kept.length) (hat : at_ + b.length ≤ m * 64) :
    Kfull d.kept (settled (fun _ => true) 0 (idx (f + at_ / 64) ((List.range c).map fun i => mix (d.seen (f + at_ / 64 + i)) (at_ / 64 + i) at_ b)) d.kept) f at_ b := by
  intro t h1 h2 hb
  have hbl : 0 < b.length := List.length_pos_iff.2 hb
  have hg := settled_get (fun _ => true) 0 (f + at_ / 64) ((List.range c).map fun i => mix (d.seen (f + at_ / 64 + i)) (at_ / 64 + i) at_ b) d.kept (f + t)
  have hlt : f + t - (f + at_ / 64) < c := by omega
  rw [if_pos ⟨by omega, by simp; omega, by omega, rfl⟩, List.getElem?_map, List.getElem?_range hlt] at hg
  rw [List.getD, hg]
  simp only [Option.map_some, Option.getD_some]
  rw [show f + at_ / 64 + (f + t - (f + at_ / 64)) = f + t from by omega, show at_ / 64 + (f + t - (f + at_ / 64)) = t from by omega]
  congr 1
  simp [Dv.seen, hp]

/-- What write leaves. -/
theorem lay_cases {d : Dv} (hu : d.down = false) (hp : d.pend = []) (hk : ∀ s ∈ d.kept, s.length = 64) {f at_ m : Nat} {b : List UInt8} (hf : f + m ≤ d.kept.length) (hat : at_ + b.length ≤ m * 64) :
    ∃ K1, Kin d.kept K1 f at_ b ∧ Kfull d.kept K1 f at_ b ∧ (d.lay f at_ b).2.kept = d.kept ∧ (d.lay f at_ b).2.pend.length ≤ m ∧ (∀ q, Kin d.kept (settled q 0 (d.lay f at_ b).2.pend d.kept) f at_ b) ∧
      ((d.lay f at_ b).1 = 0 ∧ (d.lay f at_ b).2.down = false ∧ (d.fuse = 0 → (d.lay f at_ b).2.fuse = 0) ∧ settled (fun _ => true) 0 (d.lay f at_ b).2.pend d.kept = K1 ∨ (d.lay f at_ b).1 = 10 ∧ (d.lay f at_ b).2.down = true ∧ d.fuse ≠ 0) := by
  by_cases hb : b = []
  · subst hb
    have hz : d.lay f at_ [] = (0, d) := by simp [Dv.lay]
    rw [hz]
    refine ⟨d.kept, Kin.refl hk _ _ _, fun _ _ _ h => absurd rfl h, rfl, by simp [hp], fun q => ?_, .inl ⟨rfl, hu, id, by simp [hp, settled]⟩⟩
    simp only [hp, settled]
    exact Kin.refl hk _ _ _
  · have hbl : 0 < b.length := List.length_pos_iff.2 hb
    generalize hc : (at_ + b.length - 1) / 64 - at_ / 64 + 1 = c
    have hz : d.lay f at_ b = d.puts (f + at_ / 64) ((List.range c).map fun i => mix (d.seen (f + at_ / 64 + i)) (at_ / 64 + i) at_ b) := by rw [Dv.lay, if_neg hb, hc]
    have hall := kin_settled (f := f) (at_ := at_) (c := c) (m := c) hp hk hb hc.symm (fun _ => true)
    rw [List.take_of_length_le (by simp)] at hall
    obtain ⟨n, h1, h2, h3, h4⟩ := puts_spec ((List.range c).map fun i => mix (d.seen (f + at_ / 64 + i)) (at_ / 64 + i) at_ b) (f + at_ / 64) d hu (by simp [mix_length]) (by simp; omega)
    rw [hz]
    refine ⟨_, hall, kfull_settled hp hc.symm hf hat, h2, ?_, fun q => ?_, ?_⟩
    · rw [h3, hp]; simp [idx_length]; omega
    · rw [h3, hp]
      exact kin_settled hp hk hb hc.symm q
    · rcases h4 with ⟨a1, a2, a3, a4⟩ | h4
      · refine .inl ⟨a1, a3, a4, ?_⟩
        rw [h3, hp, a2, List.take_length]
        rfl
      · exact .inr h4

/-- A write of bytes at a place of a region, then a head. -/
def Dv.did (d : Dv) (f at_ : Nat) (b : List UInt8) (g : Hd) : Nat × Dv := if (d.lay f at_ b).1 = 0 then (d.lay f at_ b).2.count g else d.lay f at_ b

theorem did_cases {d : Dv} (hu : d.down = false) (hp : d.pend = []) (hk : ∀ s ∈ d.kept, s.length = 64) {f at_ m : Nat} {b : List UInt8} (hf : f + m ≤ d.kept.length) (hat : at_ + b.length ≤ m * 64) (h1 : 1 ≤ d.kept.length) {g : Hd} (hg : g.ok) :
    ∃ K1, Kin d.kept K1 f at_ b ∧ Kfull d.kept K1 f at_ b ∧
      ((d.did f at_ b g).1 = 0 ∧ (d.did f at_ b g).2.down = false ∧ (d.did f at_ b g).2.pend = [] ∧ (d.did f at_ b g).2.kept = K1.set 0 (pad64 g.bytes) ∧ (d.fuse = 0 → (d.did f at_ b g).2.fuse = 0) ∨
       (d.did f at_ b g).1 = 10 ∧ (d.did f at_ b g).2.down = true ∧ d.fuse ≠ 0 ∧ (d.did f at_ b g).2.pend.length ≤ m + 1 ∧ ∀ q, Kin d.kept (settled q 0 (d.did f at_ b g).2.pend (d.did f at_ b g).2.kept) f at_ b ∨ settled q 0 (d.did f at_ b g).2.pend (d.did f at_ b g).2.kept = K1.set 0 (pad64 g.bytes)) := by
  obtain ⟨K1, k1, k2, k3, k4, k5, k6⟩ := lay_cases hu hp hk hf hat
  refine ⟨K1, k1, k2, ?_⟩
  unfold Dv.did
  generalize hL : d.lay f at_ b = p at *
  rcases k6 with ⟨a1, a2, a3, a4⟩ | ⟨a1, a2, a3⟩
  · rw [if_pos a1]
    have hfl : p.2.flush = if p.2.fuse = 1 then (10, { p.2 with fuse := 0, down := true }) else (0, { fuse := p.2.fuse - 1, down := false, kept := K1, pend := [] }) := by
      unfold Dv.flush
      rw [if_neg (by simp [a2])]
      split
      · rfl
      · simp only [Dv.settle, k3, a4, a2]
    by_cases hf1 : p.2.fuse = 1
    · rw [if_pos hf1] at hfl
      have hct : p.2.count g = (10, { p.2 with fuse := 0, down := true }) := by simp [Dv.count, hfl]
      rw [hct]
      refine .inr ⟨rfl, rfl, fun h0 => by have := a3 h0; omega, by show p.2.pend.length ≤ m + 1; omega, fun q => .inl ?_⟩
      show Kin d.kept (settled q 0 p.2.pend p.2.kept) f at_ b
      rw [k3]
      exact k5 q
    · rw [if_neg hf1] at hfl
      have hct : p.2.count g = Dv.told { fuse := p.2.fuse - 1, down := false, kept := K1, pend := [] } g := by simp [Dv.count, hfl]
      rw [hct]
      have hw := Dv.write_is { fuse := p.2.fuse - 1, down := false, kept := K1, pend := [] } 0 g.bytes rfl (by show 0 < K1.length; rw [k1.1]; omega) (by have := g.bytes_length hg; omega)
      by_cases hf2 : p.2.fuse - 1 = 1
      · rw [if_pos hf2] at hw
        have htd : Dv.told { fuse := p.2.fuse - 1, down := false, kept := K1, pend := [] } g = (10, { fuse := 0, down := true, kept := K1, pend := [] }) := by
          unfold Dv.told
          rw [show ((0 : Int)) = ((0 : Nat) : Int) from rfl, hw]
          simp
        rw [htd]
        exact .inr ⟨rfl, rfl, fun h0 => by have := a3 h0; omega, by simp, fun q => .inl (by simpa [settled] using k1)⟩
      · rw [if_neg hf2] at hw
        have htd : Dv.told { fuse := p.2.fuse - 1, down := false, kept := K1, pend := [] } g = Dv.flush { fuse := p.2.fuse - 1 - 1, down := false, kept := K1, pend := [(0, pad64 g.bytes)] } := by
          unfold Dv.told
          rw [show ((0 : Int)) = ((0 : Nat) : Int) from rfl, hw]
          simp
        rw [htd]
        unfold Dv.flush
        by_cases hf3 : p.2.fuse - 1 - 1 = 1
        · simp only [hf3, if_true, Bool.false_eq_true, if_false]
          refine .inr ⟨trivial, trivial, fun h0 => by have := a3 h0; omega, by simp, fun q => ?_⟩
          simp only [settled]
          split
          · exact .inr rfl
          · exact .inl k1
        · simp only [hf3, Bool.false_eq_true, if_false]
          exact .inl ⟨trivial, rfl, rfl, by simp [Dv.settle, settled], fun h0 => by have := a3 h0; show p.2.fuse - 1 - 1 - 1 = 0; omega⟩
  · rw [if_neg (by omega)]
    refine .inr ⟨a1, a2, a3, by omega, fun q => .inl ?_⟩
    rw [k3]
    exact k5 q

/-! ### A journal that is kept -/

/-- What is kept has a head, records, an area. -/
structure St (K : List (List UInt8)) (L A Da : Nat) (h : Hd) (recs : List (List UInt8)) (area : List UInt8) : Prop where
  len : sectorsS L A Da ≤ K.length
  sec : ∀ s ∈ K, s.length = 64
  ok : h.ok
  round : 1 ≤ h.round
  size : h.size ≤ A * 64
  used : h.used ≤ L * 64
  head : K.getD 0 [] = pad64 h.bytes
  log : bytesK K 1 h.used = txts recs
  area : bytesK K (areaAt L A h.area) h.size = area

theorem St.kin {K K' : List (List UInt8)} {L A Da f at_ m : Nat} {h : Hd} {recs : List (List UInt8)} {area b : List UInt8} (hs : St K L A Da h recs area) (hk : Kin K K' f at_ b) (hm : at_ + b.length ≤ m * 64) (h1 : 1 ≤ f)
    (hlog : f = 1 ∧ at_ = h.used ∨ 1 + L ≤ f) (harea : areaAt L A h.area + A ≤ f ∨ f + m ≤ areaAt L A h.area) : St K' L A Da h recs area := by
  refine ⟨by rw [hk.1]; exact hs.len, hk.2.1, hs.ok, hs.round, hs.size, hs.used, ?_, ?_, ?_⟩
  · rw [← hs.head]
    rcases hk.2.2 0 with h | ⟨t, h0, _⟩
    · exact h
    · omega
  · rw [← hs.log]
    have := hs.used
    refine bytesK_congr fun i hi => hk.byt hm 1 i ?_
    rcases hlog with ⟨rfl, rfl⟩ | hlog
    · exact .inr (.inr ⟨rfl, hi⟩)
    · exact .inl (by omega)
  · rw [← hs.area]
    have := hs.size
    refine bytesK_congr fun i hi => hk.byt hm _ i ?_
    rcases harea with h | h
    · exact .inl (by omega)
    · exact .inr (.inl (by omega))

theorem byt_set (K : List (List UInt8)) (x : List UInt8) (f i : Nat) (hf : 1 ≤ f) : byt (K.set 0 x) f i = byt K f i := by
  unfold byt
  rw [getD_of_get? (List.getElem?_set_ne (by omega))]

theorem bytesK_set (K : List (List UInt8)) (x : List UInt8) (f n : Nat) (hf : 1 ≤ f) : bytesK (K.set 0 x) f n = bytesK K f n := bytesK_congr fun i _ => byt_set K x f i hf

theorem areaAt_pos (L A k : Nat) : 1 + L ≤ areaAt L A k := by unfold areaAt; split <;> omega

theorem set_head {K : List (List UInt8)} {x : List UInt8} (h : 1 ≤ K.length) : (K.set 0 x).getD 0 [] = x := by rw [List.getD, List.getElem?_set_self (by omega)]; rfl

theorem set_sec {K : List (List UInt8)} {x : List UInt8} (h : ∀ s ∈ K, s.length = 64) (hx : x.length = 64) : ∀ s ∈ K.set 0 x, s.length = 64 := by
  intro s hs
  rcases List.mem_or_eq_of_mem_set hs with hs | rfl
  · exact h s hs
  · exact hx

/-- How a call ends: well; or down, and whatever is kept of it, what there was before or behind it. -/
def Ends (d : Dv) (p : Nat × Dv) (Old New : List (List UInt8) → Prop) : Prop :=
  p.1 = 0 ∧ p.2.down = false ∧ p.2.pend = [] ∧ New p.2.kept ∧ (d.fuse = 0 → p.2.fuse = 0) ∨
  p.1 = 10 ∧ p.2.down = true ∧ d.fuse ≠ 0 ∧ p.2.pend.length ≤ 10000 ∧ ∀ q, Old (settled q 0 p.2.pend p.2.kept) ∨ New (settled q 0 p.2.pend p.2.kept)

/-- The head behind Append, Switch. -/
def Hd.app (h : Hd) (x : List UInt8) : Hd := h.next h.area h.size (h.used + (txt x).length)
def Hd.sw (h : Hd) (b : List UInt8) : Hd := h.next (1 - h.area) b.length 0

theorem app_ends {d : Dv} {L A Da : Nat} {h : Hd} {recs : List (List UInt8)} {area x : List UInt8} (hu : d.down = false) (hp : d.pend = []) (hs : St d.kept L A Da h recs area) (hsh : shapeOk L A Da) (hr : h.round < 1099511627776) (hx : h.used + (txt x).length ≤ L * 64) :
    Ends d (d.did 1 h.used (txt x) (h.app x)) (fun K => St K L A Da h recs area) (fun K => St K L A Da (h.app x) (recs ++ [x]) area) := by
  obtain ⟨⟨hL1, hL2⟩, ⟨hA1, hA2⟩, ⟨hD1, hD2⟩, hT⟩ := hsh
  have hlen : 1 + L + A + A + Da ≤ d.kept.length := hs.len
  obtain ⟨o1, o2, o3, o4⟩ := hs.ok
  have hsz := hs.size
  have hok : (h.app x).ok := ⟨o1, o2, by show h.used + (txt x).length ≤ _; omega, by show h.round + 1 ≤ _; omega⟩
  obtain ⟨K1, k1, k2, k3⟩ := did_cases (f := 1) (at_ := h.used) (m := L) (b := txt x) hu hp hs.sec (by omega) hx (by omega) hok
  have hap := areaAt_pos L A h.area
  have hax : areaAt L A h.area + A ≤ 1 + L + A + A := by unfold areaAt; split <;> omega
  have old : ∀ K', Kin d.kept K' 1 h.used (txt x) → St K' L A Da h recs area := fun K' hK => hs.kin hK hx (Nat.le_refl _) (.inl ⟨rfl, rfl⟩) (.inr (by omega))
  have hK1 := old K1 k1
  have hpl : (pad64 (h.app x).bytes).length = 64 := pad64_length _ (by have := (h.app x).bytes_length hok; omega)
  have new : St (K1.set 0 (pad64 (h.app x).bytes)) L A Da (h.app x) (recs ++ [x]) area := by
    refine ⟨by simpa using hK1.len, set_sec hK1.sec hpl, hok, by show 1 ≤ h.round + 1; omega, hsz, hx, set_head (by rw [k1.1]; omega), ?_, ?_⟩
    · rw [bytesK_set _ _ _ _ (Nat.le_refl _), show (h.app x).used = h.used + (txt x).length from rfl, bytesK_add, hK1.log, txts_append]
      congr 1
      rw [list_of_get _ _ fun j hj => k2.byt j hj]
      simp [txts]
    · rw [bytesK_set _ _ _ _ (by show 1 ≤ areaAt L A h.area; omega)]
      exact hK1.area
  rcases k3 with ⟨a1, a2, a3, a4, a5⟩ | ⟨a1, a2, a3, a4, a5⟩
  · exact .inl ⟨a1, a2, a3, by rw [a4]; exact new, a5⟩
  · exact .inr ⟨a1, a2, a3, by omega, fun q => (a5 q).imp (old _) fun e => by rw [e]; exact new⟩

theorem sw_ends {d : Dv} {L A Da : Nat} {h : Hd} {recs : List (List UInt8)} {area b : List UInt8} (hu : d.down = false) (hp : d.pend = []) (hs : St d.kept L A Da h recs area) (hsh : shapeOk L A Da) (hr : h.round < 1099511627776) (hx : b.length ≤ A * 64) :
    Ends d (d.did (areaAt L A (1 - h.area)) 0 b (h.sw b)) (fun K => St K L A Da h recs area) (fun K => St K L A Da (h.sw b) [] b) := by
  obtain ⟨⟨hL1, hL2⟩, ⟨hA1, hA2⟩, ⟨hD1, hD2⟩, hT⟩ := hsh
  have hlen : 1 + L + A + A + Da ≤ d.kept.length := hs.len
  obtain ⟨o1, o2, o3, o4⟩ := hs.ok
  have hok : (h.sw b).ok := ⟨by show 1 - h.area ≤ 1; omega, by show b.length ≤ _; omega, by show 0 ≤ _; omega, by show h.round + 1 ≤ _; omega⟩
  have hap := areaAt_pos L A (1 - h.area)
  have hax : areaAt L A (1 - h.area) + A ≤ 1 + L + A + A := by unfold areaAt; split <;> omega
  have har : areaAt L A h.area + A ≤ areaAt L A (1 - h.area) ∨ areaAt L A (1 - h.area) + A ≤ areaAt L A h.area := by
    unfold areaAt
    by_cases h0 : h.area = 0
    · rw [h0]; simp
    · rw [if_neg h0, if_pos (by omega)]; omega
  obtain ⟨K1, k1, k2, k3⟩ := did_cases (f := areaAt L A (1 - h.area)) (at_ := 0) (m := A) (b := b) hu hp hs.sec (by omega) (by omega) (by omega) hok
  have old : ∀ K', Kin d.kept K' (areaAt L A (1 - h.area)) 0 b → St K' L A Da h recs area := fun K' hK => hs.kin hK (m := A) (by omega) (by omega) (.inr hap) har
  have hK1 := old K1 k1
  have hpl : (pad64 (h.sw b).bytes).length = 64 := pad64_length _ (by have := (h.sw b).bytes_length hok; omega)
  have new : St (K1.set 0 (pad64 (h.sw b).bytes)) L A Da (h.sw b) [] b := by
    refine ⟨by simpa using hK1.len, set_sec hK1.sec hpl, hok, by show 1 ≤ h.round + 1; omega, hx, by show 0 ≤ _; omega, set_head (by rw [k1.1]; omega), rfl, ?_⟩
    rw [bytesK_set _ _ _ _ (by show 1 ≤ areaAt L A (1 - h.area); omega)]
    refine list_of_get b _ fun j hj => ?_
    have := k2.byt j hj
    rw [Nat.zero_add] at this
    exact this
  rcases k3 with ⟨a1, a2, a3, a4, a5⟩ | ⟨a1, a2, a3, a4, a5⟩
  · exact .inl ⟨a1, a2, a3, by rw [a4]; exact new, a5⟩
  · exact .inr ⟨a1, a2, a3, by omega, fun q => (a5 q).imp (old _) fun e => by rw [e]; exact new⟩

/-- A device that keeps it shows it. -/
theorem St.shows {d : Dv} {L A Da : Nat} {h : Hd} {recs : List (List UInt8)} {area : List UInt8} (hs : St d.kept L A Da h recs area) (hsh : shapeOk L A Da) (hp : d.pend = []) : Shows d L A Da h recs ∧ d.bytes (areaAt L A h.area) h.size = area := by
  obtain ⟨⟨hL1, hL2⟩, ⟨hA1, hA2⟩, ⟨hD1, hD2⟩, hT⟩ := hsh
  have hlen : 1 + L + A + A + Da ≤ d.kept.length := hs.len
  have hu := hs.used
  have hz := hs.size
  have hax : areaAt L A h.area + A ≤ 1 + L + A + A := by unfold areaAt; split <;> omega
  refine ⟨⟨hs.ok, hs.round, hs.size, hs.used, by rw [← hs.head]; simp [Dv.seen, hp], ?_⟩, ?_⟩
  · rw [bytes_K d hp hs.sec _ _ (by omega)]; exact hs.log
  · rw [bytes_K d hp hs.sec _ _ (by omega)]; exact hs.area

/-- A device that was just formatted. -/
theorem format_st {n L A Da : Nat} (hn : sectorsS L A Da ≤ n) : (newDv n).format.1 = 0 ∧ (newDv n).format.2.down = false ∧ (newDv n).format.2.pend = [] ∧ (newDv n).format.2.fuse = 0 ∧ St (newDv n).format.2.kept L A Da ⟨0, 0, 0, 1⟩ [] [] := by
  have h1 : 1 ≤ n := by have : 1 + L + A + A + Da ≤ n := hn; omega
  have hok : (⟨0, 0, 0, 1⟩ : Hd).ok := ⟨by decide, by decide, by decide, by decide⟩
  have hw := Dv.write_is (newDv n) 0 (⟨0, 0, 0, 1⟩ : Hd).bytes rfl (by simp [newDv]; omega) (by have := Hd.bytes_length _ hok; omega)
  have hf : (newDv n).format = (0, { fuse := 0, down := false, kept := (List.replicate n (List.replicate 64 0)).set 0 (pad64 (⟨0, 0, 0, 1⟩ : Hd).bytes), pend := [] }) := by
    unfold Dv.format Dv.told
    rw [show ((0 : Int)) = ((0 : Nat) : Int) from rfl, hw]
    simp [newDv, Dv.flush, Dv.settle, settled]
  rw [hf]
  refine ⟨rfl, rfl, rfl, rfl, ?_⟩
  have hpl : (pad64 (⟨0, 0, 0, 1⟩ : Hd).bytes).length = 64 := pad64_length _ (by have := Hd.bytes_length _ hok; omega)
  exact ⟨by simpa using hn, set_sec (by intro s hs; rw [List.eq_of_mem_replicate hs]; simp) hpl, hok, by decide, Nat.zero_le _, Nat.zero_le _, set_head (by simpa using h1), rfl, rfl⟩
end Go.Proofs.YtckmpdplmpgniaaGreat
