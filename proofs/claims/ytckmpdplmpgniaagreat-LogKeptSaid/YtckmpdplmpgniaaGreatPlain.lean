/- The bytes of numbers and texts: plain Lean, no program. No condition: definitions and lemmas. -/

namespace Go.Proofs.YtckmpdplmpgniaaGreat

/-- A number's bytes, so many at most. -/
def numF : Nat → Nat → List UInt8
  | 0, n => [UInt8.ofNat n]
  | f + 1, n => if n < 128 then [UInt8.ofNat n] else UInt8.ofNat (n % 128 + 128) :: numF f (n / 128)

/-- A number's bytes. -/
def num (n : Nat) : List UInt8 := numF 10 n

theorem numF_succ (f n : Nat) (h : n < 128 ^ f) : numF (f + 1) n = numF f n := by
  induction f generalizing n with
  | zero => simp at h; subst h; simp [numF]
  | succ f ih =>
    rw [numF]
    conv => rhs; rw [numF]
    split
    · rfl
    · rw [ih]
      rw [Nat.pow_succ] at h
      omega

theorem num_small (n : Nat) (h : n < 128) : num n = [UInt8.ofNat n] := by simp [num, numF, h]

theorem num_step (n : Nat) (h : 128 ≤ n) (hn : n < 18446744073709551616) : num n = UInt8.ofNat (n % 128 + 128) :: num (n / 128) := by
  have e : numF 10 (n / 128) = numF 9 (n / 128) := numF_succ 9 _ (by omega)
  unfold num
  rw [e]
  rw [numF, if_neg (by omega)]

theorem numF_length (f n : Nat) : 1 ≤ (numF f n).length ∧ (numF f n).length ≤ f + 1 := by
  induction f generalizing n with
  | zero => simp [numF]
  | succ f ih =>
    rw [numF]
    split
    · simp
    · have := ih (n / 128); simp only [List.length_cons]; omega

theorem num_length (n : Nat) : 1 ≤ (num n).length ∧ (num n).length ≤ 11 := numF_length 10 n

/-- The bytes of numbers. -/
def nums : List Nat → List UInt8
  | [] => []
  | n :: l => num n ++ nums l

theorem nums_append (a b : List Nat) : nums (a ++ b) = nums a ++ nums b := by
  induction a with
  | nil => rfl
  | cons x a ih => simp [nums, ih]

/-- A text's bytes. -/
def txt (b : List UInt8) : List UInt8 := num b.length ++ b

/-- The bytes of texts. -/
def txts : List (List UInt8) → List UInt8
  | [] => []
  | b :: l => txt b ++ txts l

theorem txts_append (a b : List (List UInt8)) : txts (a ++ b) = txts a ++ txts b := by
  induction a with
  | nil => rfl
  | cons x a ih => simp [txts, ih]

end Go.Proofs.YtckmpdplmpgniaaGreat
/- Numbers read out of bytes: plain Lean. -/
namespace Go.Proofs.YtckmpdplmpgniaaGreat

/-- The number that begins there, of so many bytes at most: it, and how many bytes it has. -/
def decF : Nat → List UInt8 → Option (Nat × Nat)
  | 0, _ => none
  | _ + 1, [] => none
  | f + 1, x :: r => if x.toNat < 128 then some (x.toNat, 1) else (decF f r).map fun p => (x.toNat % 128 + 128 * p.1, p.2 + 1)

/-- What Num(most) gets: a number, and how many bytes it has. -/
def cnum (most : Int) (r : List UInt8) : Option (Nat × Nat) :=
  match decF 6 r with
  | some (n, c) => if c = (num n).length ∧ n ≤ 1099511627776 ∧ (n : Int) ≤ most then some (n, c) else none
  | none => none

/-- The value of bytes, all of which go on. -/
def acc : List UInt8 → Nat
  | [] => 0
  | x :: r => x.toNat % 128 + 128 * acc r

theorem acc_lt (l : List UInt8) : acc l < 128 ^ l.length := by
  induction l with
  | nil => simp [acc]
  | cons x l ih =>
    simp only [acc, List.length_cons, Nat.pow_succ]
    have := Nat.mod_lt x.toNat (show 128 > 0 by decide)
    omega

theorem acc_snoc (l : List UInt8) (x : UInt8) : acc (l ++ [x]) = acc l + 128 ^ l.length * (x.toNat % 128) := by
  induction l with
  | nil => simp [acc]
  | cons y l ih =>
    simp only [acc, List.cons_append, ih, List.length_cons, Nat.pow_succ]
    rw [Nat.mul_add, Nat.add_assoc, Nat.mul_comm (128 ^ l.length) 128, Nat.mul_assoc]

/-- Bytes that go on, then one that ends. -/
theorem decF_end (f : Nat) (l : List UInt8) (x : UInt8) (r : List UInt8) (h : ∀ y ∈ l, 128 ≤ y.toNat) (hx : x.toNat < 128) (hf : l.length < f) : decF f (l ++ x :: r) = some (acc l + 128 ^ l.length * x.toNat, l.length + 1) := by
  induction l generalizing f with
  | nil =>
    cases f with
    | zero => simp at hf
    | succ f => simp [decF, hx, acc]
  | cons y l ih =>
    cases f with
    | zero => simp at hf
    | succ f =>
      have hy := h y (by simp)
      rw [List.cons_append, decF, if_neg (by omega), ih f (fun z hz => h z (by simp [hz])) (by simpa using hf)]
      simp only [Option.map_some, acc, List.length_cons, Nat.pow_succ]
      congr 2
      rw [Nat.mul_add, Nat.add_assoc, Nat.mul_comm (128 ^ l.length) 128, Nat.mul_assoc]

/-- Bytes that all go on: no number. -/
theorem decF_none (f : Nat) (l r : List UInt8) (h : ∀ y ∈ l, 128 ≤ y.toNat) (hf : f ≤ l.length ∨ r = []) : decF f (l ++ r) = none := by
  induction l generalizing f with
  | nil =>
    cases f with
    | zero => rfl
    | succ f => rcases hf with hf | rfl
                · simp at hf
                · rfl
  | cons y l ih =>
    cases f with
    | zero => rfl
    | succ f =>
      have hy := h y (by simp)
      rw [List.cons_append, decF, if_neg (by omega), ih f (fun z hz => h z (by simp [hz])) (by simpa using hf)]
      rfl

/-- A number's own bytes. -/
theorem decF_num (n : Nat) (r : List UInt8) (f : Nat) (hn : n < 128 ^ f) (hf : 0 < f) (h64 : n < 18446744073709551616) : decF f (num n ++ r) = some (n, (num n).length) := by
  induction f generalizing n with
  | zero => omega
  | succ f ih =>
    by_cases h : n < 128
    · rw [num_small n h]
      have : (UInt8.ofNat n).toNat = n := by simp; omega
      simp [decF, this, h]
    · rw [num_step n (by omega) h64]
      have e : (UInt8.ofNat (n % 128 + 128)).toNat = n % 128 + 128 := by simp; omega
      have hf' : 0 < f := by
        rcases Nat.eq_zero_or_pos f with rfl | h'
        · simp at hn; omega
        · exact h'
      rw [List.cons_append, decF, if_neg (by omega), ih (n / 128) (by rw [Nat.pow_succ] at hn; omega) hf' (by omega)]
      simp only [Option.map_some, e, List.length_cons]
      congr 2
      omega

theorem cnum_num (most : Int) (n : Nat) (r : List UInt8) (hn : n ≤ 1099511627776) (hm : (n : Int) ≤ most) : cnum most (num n ++ r) = some (n, (num n).length) := by
  unfold cnum
  rw [decF_num n r 6 (by omega) (by decide) (by omega)]
  simp [hn, hm]

theorem decF_len (f : Nat) (r : List UInt8) (n c : Nat) (h : decF f r = some (n, c)) : 1 ≤ c ∧ c ≤ f ∧ c ≤ r.length ∧ n < 128 ^ c := by
  induction f generalizing r n c with
  | zero => simp [decF] at h
  | succ f ih =>
    cases r with
    | nil => simp [decF] at h
    | cons x r =>
      rw [decF] at h
      split at h
      · simp only [Option.some.injEq, Prod.mk.injEq] at h
        obtain ⟨rfl, rfl⟩ := h
        simp; omega
      · obtain ⟨⟨m, d⟩, h1, h2⟩ := Option.map_eq_some_iff.1 h
        simp only [Prod.mk.injEq] at h2
        obtain ⟨rfl, rfl⟩ := h2
        have := ih r m d h1
        simp only [List.length_cons, Nat.pow_succ]
        have := Nat.mod_lt x.toNat (show 128 > 0 by decide)
        omega

/-- What a number was got of are its own bytes, if they are as many. -/
theorem decF_take (f : Nat) (r : List UInt8) (n c : Nat) (h : decF f r = some (n, c)) (h64 : n < 18446744073709551616) (hc : c = (num n).length) : r.take c = num n := by
  induction f generalizing r n c with
  | zero => simp [decF] at h
  | succ f ih =>
    cases r with
    | nil => simp [decF] at h
    | cons x r =>
      rw [decF] at h
      split at h
      · rename_i hx
        simp only [Option.some.injEq, Prod.mk.injEq] at h
        obtain ⟨rfl, rfl⟩ := h
        rw [num_small _ hx]
        simp
      · rename_i hx
        obtain ⟨⟨m, d⟩, h1, h2⟩ := Option.map_eq_some_iff.1 h
        simp only [Prod.mk.injEq] at h2
        obtain ⟨rfl, rfl⟩ := h2
        have hd := decF_len f r m d h1
        have hx2 := UInt8.toNat_lt x
        by_cases h0 : m = 0
        · exfalso
          subst h0
          rw [num_small _ (by omega)] at hc
          simp at hc
          omega
        · have hb : 128 ≤ x.toNat % 128 + 128 * m := by omega
          rw [num_step _ hb h64] at hc ⊢
          rw [show (x.toNat % 128 + 128 * m) / 128 = m from by omega] at hc ⊢
          rw [show (x.toNat % 128 + 128 * m) % 128 + 128 = x.toNat from by omega]
          simp only [List.length_cons, Nat.add_right_cancel_iff] at hc
          rw [List.take_succ_cons, ih r m d h1 (by omega) hc]
          congr 1
          apply UInt8.toNat_inj.1
          simp

/-- Num gets just the number whose bytes stand there. -/
theorem cnum_some (most : Int) (r : List UInt8) (n c : Nat) (h : cnum most r = some (n, c)) : n ≤ 1099511627776 ∧ (n : Int) ≤ most ∧ c = (num n).length ∧ r = num n ++ r.drop c ∧ 1 ≤ c ∧ c ≤ 6 ∧ c ≤ r.length := by
  unfold cnum at h
  split at h
  · rename_i m d hd
    split at h
    · rename_i hc
      simp only [Option.some.injEq, Prod.mk.injEq] at h
      obtain ⟨rfl, rfl⟩ := h
      have h1 := decF_len 6 r m d hd
      have h2 := decF_take 6 r m d hd (by omega) hc.1
      refine ⟨hc.2.1, hc.2.2, hc.1, ?_, h1.1, h1.2.1, h1.2.2.1⟩
      conv => lhs; rw [← List.take_append_drop d r, h2]
    · cases h
  · cases h

end Go.Proofs.YtckmpdplmpgniaaGreat
/- A device as plain data: what its calls do. Plain Lean, no program. -/
namespace Go.Proofs.YtckmpdplmpgniaaGreat

/-- A device: its fuse, whether it is down, what is kept, what is pending. -/
structure Dv where
  fuse : Nat
  down : Bool
  kept : List (List UInt8)
  pend : List (Nat × List UInt8)

/-- Numbers in range, sectors of 64 bytes, pending writes of sectors that are there. -/
def Dv.ok (d : Dv) : Prop :=
  1 ≤ d.kept.length ∧ d.kept.length ≤ 8192 ∧ (∀ s ∈ d.kept, s.length = 64) ∧ (∀ p ∈ d.pend, p.1 < d.kept.length ∧ p.2.length = 64) ∧ d.fuse ≤ 9223372036854775807

/-- A deed begins. -/
def Dv.next (d : Dv) : Nat × Dv := if d.fuse = 1 then (10, { d with fuse := 0, down := true }) else (0, { d with fuse := d.fuse - 1 })

/-- A sector's bytes: these, and noughts behind them. -/
def pad64 (b : List UInt8) : List UInt8 := b ++ List.replicate (64 - b.length) 0

/-- Is there a sector? -/
def Dv.has (d : Dv) (at_ : Int) : Bool := decide (0 ≤ at_ ∧ at_ < d.kept.length)

/-- A write. -/
def Dv.write (d : Dv) (at_ : Int) (b : List UInt8) : Nat × Dv :=
  if d.down then (10, d)
  else if d.has at_ = true ∧ b.length ≤ 64 then
    if d.fuse = 1 then (10, { d with fuse := 0, down := true })
    else (0, { d with fuse := d.fuse - 1, pend := d.pend ++ [(at_.toNat, pad64 b)] })
  else (2, d)

/-- The pending writes of which something is so are kept. -/
def settled : (Nat → Bool) → Nat → List (Nat × List UInt8) → List (List UInt8) → List (List UInt8)
  | _, _, [], kept => kept
  | f, k, p :: l, kept => settled f (k + 1) l (if f k then kept.set p.1 p.2 else kept)

def Dv.settle (d : Dv) (f : Nat → Bool) : Dv := { d with kept := settled f 0 d.pend d.kept, pend := [] }

def Dv.flush (d : Dv) : Nat × Dv :=
  if d.down then (10, d)
  else if d.fuse = 1 then (10, { d with fuse := 0, down := true })
  else (0, { d with fuse := d.fuse - 1 }.settle fun _ => true)

/-- What is seen of a sector: the last pending write of it, or what is kept. -/
def Dv.seen (d : Dv) (at_ : Nat) : List UInt8 := ((d.pend.reverse.find? fun p => p.1 == at_).map Prod.snd).getD (d.kept.getD at_ [])

def Dv.setFuse (d : Dv) (n : Int) : Dv := if d.down then d else { d with fuse := n.toNat }

theorem settled_length (f : Nat → Bool) (k : Nat) (l : List (Nat × List UInt8)) (kept : List (List UInt8)) : (settled f k l kept).length = kept.length := by
  induction l generalizing k kept with
  | nil => rfl
  | cons p l ih => rw [settled, ih]; split <;> simp

theorem settled_mem (f : Nat → Bool) (k : Nat) (l : List (Nat × List UInt8)) (kept : List (List UInt8)) (h : ∀ s ∈ kept, s.length = 64) (hl : ∀ p ∈ l, p.2.length = 64) : ∀ s ∈ settled f k l kept, s.length = 64 := by
  induction l generalizing k kept with
  | nil => exact h
  | cons p l ih =>
    rw [settled]
    refine ih (k + 1) _ ?_ fun q hq => hl q (by simp [hq])
    split
    · intro s hs
      rcases List.mem_or_eq_of_mem_set hs with hs | rfl
      · exact h s hs
      · exact hl p (by simp)
    · exact h

theorem pad64_length (b : List UInt8) (h : b.length ≤ 64) : (pad64 b).length = 64 := by simp [pad64]; omega

theorem Dv.ok_settle {d : Dv} (h : d.ok) (f : Nat → Bool) : (d.settle f).ok := by
  obtain ⟨h1, h2, h3, h4, h5⟩ := h
  refine ⟨?_, ?_, ?_, by simp [Dv.settle], h5⟩
  · simp only [Dv.settle, settled_length]; exact h1
  · simp only [Dv.settle, settled_length]; exact h2
  · exact settled_mem f 0 _ _ h3 fun p hp => (h4 p hp).2

theorem settled_append (f : Nat → Bool) (k : Nat) (l m : List (Nat × List UInt8)) (kept : List (List UInt8)) : settled f k (l ++ m) kept = settled f (k + l.length) m (settled f k l kept) := by
  induction l generalizing k kept with
  | nil => rfl
  | cons p l ih => rw [List.cons_append, settled, settled, ih]; congr 1; simp; omega

end Go.Proofs.YtckmpdplmpgniaaGreat
/- A journal as plain data: heads, regions. Plain Lean, no program. -/
namespace Go.Proofs.YtckmpdplmpgniaaGreat

/-- A head. -/
structure Hd where
  area : Nat
  size : Nat
  used : Nat
  round : Nat

def Hd.ok (h : Hd) : Prop := h.area ≤ 1 ∧ h.size ≤ 1099511627776 ∧ h.used ≤ 1099511627776 ∧ h.round ≤ 1099511627776
def Hd.list (h : Hd) : List Nat := [h.area, h.size, h.used, h.round]
/-- A head's bytes. -/
def Hd.bytes (h : Hd) : List UInt8 := nums h.list

theorem numF_small (f g n : Nat) (h : n < 128 ^ (g + 1)) : (numF f n).length ≤ g + 1 := by
  induction f generalizing n g with
  | zero => simp [numF]
  | succ f ih =>
    rw [numF]
    split
    · simp
    · cases g with
      | zero => simp at h; omega
      | succ g =>
        have := ih g (n / 128) (by rw [Nat.pow_succ] at h; omega)
        simp only [List.length_cons]
        omega

theorem num_length6 (n : Nat) (h : n ≤ 1099511627776) : (num n).length ≤ 6 := numF_small 10 5 n (by omega)

theorem Hd.bytes_length (h : Hd) (hk : h.ok) : h.bytes.length ≤ 24 := by
  obtain ⟨h1, h2, h3, h4⟩ := hk
  have a1 := num_length6 h.area (by omega)
  have a2 := num_length6 h.size h2
  have a3 := num_length6 h.used h3
  have a4 := num_length6 h.round h4
  simp only [Hd.bytes, Hd.list, nums, List.length_append, List.length_nil]
  omega

/-- Telling a head. -/
def Dv.told (d : Dv) (h : Hd) : Nat × Dv := if (d.write 0 h.bytes).1 = 0 then (d.write 0 h.bytes).2.flush else d.write 0 h.bytes

theorem Dv.write_cases (d : Dv) (at_ : Int) (b : List UInt8) : (d.write at_ b).1 = 0 ∨ (d.write at_ b).1 = 10 ∨ (d.write at_ b).1 = 2 := by
  unfold Dv.write
  split
  · simp
  · split
    · split <;> simp
    · simp

theorem Dv.flush_cases (d : Dv) : d.flush.1 = 0 ∨ d.flush.1 = 10 := by
  unfold Dv.flush
  split
  · simp
  · split <;> simp

/-- Pending writes grow by one at most. -/
theorem Dv.write_pend (d : Dv) (at_ : Int) (b : List UInt8) : (d.write at_ b).2.pend.length ≤ d.pend.length + 1 := by
  unfold Dv.write
  split
  · simp
  · split
    · split <;> simp
    · simp

end Go.Proofs.YtckmpdplmpgniaaGreat
/- What a write of bytes at a place of a region lays into its sectors. Plain Lean, no program. -/
namespace Go.Proofs.YtckmpdplmpgniaaGreat

/-- A sector's bytes, those of b laid over them that fall into it: b begins at a place, the sector is the s-th. -/
def mix (sh : List UInt8) (s at_ : Nat) (b : List UInt8) : List UInt8 :=
  (List.range 64).map fun i => if at_ ≤ 64 * s + i ∧ 64 * s + i < at_ + b.length then b.getD (64 * s + i - at_) 0 else sh.getD i 0

theorem mix_length (sh : List UInt8) (s at_ : Nat) (b : List UInt8) : (mix sh s at_ b).length = 64 := by simp [mix]

theorem mix_nil (sh : List UInt8) (s at_ : Nat) (h : sh.length = 64) : mix sh s at_ [] = sh := by
  apply List.ext_getElem
  · simp [mix, h]
  · intro i h1 h2
    have : ¬ (at_ ≤ 64 * s + i ∧ 64 * s + i < at_) := by omega
    simp [mix, this, List.getD, List.getElem?_eq_getElem h2]

/-- Before any byte of its own has come a sector is as it was. -/
theorem mix_before (sh : List UInt8) (s at_ : Nat) (b : List UInt8) (h : sh.length = 64) (hs : at_ + b.length ≤ 64 * s) : mix sh s at_ b = sh := by
  apply List.ext_getElem
  · simp [mix, h]
  · intro i h1 h2
    have : ¬ (at_ ≤ 64 * s + i ∧ 64 * s + i < at_ + b.length) := by omega
    simp [mix, this, List.getD, List.getElem?_eq_getElem h2]

theorem mix_get (sh : List UInt8) (s at_ : Nat) (b : List UInt8) (i : Nat) : (mix sh s at_ b)[i]? = if i < 64 then some (if at_ ≤ 64 * s + i ∧ 64 * s + i < at_ + b.length then b.getD (64 * s + i - at_) 0 else sh.getD i 0) else none := by
  unfold mix
  rw [List.getElem?_map]
  by_cases h : i < 64
  · rw [if_pos h, List.getElem?_range h]; rfl
  · rw [if_neg h, List.getElem?_eq_none (by simpa using h)]; rfl

/-- One byte more. -/
theorem mix_step (sh : List UInt8) (s at_ : Nat) (b : List UInt8) (x : UInt8) : mix sh s at_ (b ++ [x]) = if (at_ + b.length) / 64 = s then (mix sh s at_ b).set ((at_ + b.length) % 64) x else mix sh s at_ b := by
  apply List.ext_getElem?
  intro i
  rw [mix_get]
  have hl : (b ++ [x]).length = b.length + 1 := by simp
  rw [hl]
  by_cases h : i < 64
  · rw [if_pos h]
    by_cases hs : (at_ + b.length) / 64 = s
    · rw [if_pos hs]
      by_cases hj : (at_ + b.length) % 64 = i
      · subst hj
        rw [List.getElem?_set_self (by rw [mix_length]; exact h)]
        have : 64 * s + (at_ + b.length) % 64 = at_ + b.length := by omega
        rw [this, if_pos (by omega)]
        simp [List.getD]
      · rw [List.getElem?_set_ne hj, mix_get, if_pos h]
        by_cases hin : at_ ≤ 64 * s + i ∧ 64 * s + i < at_ + b.length
        · rw [if_pos hin, if_pos (by omega)]
          simp only [List.getD]
          rw [List.getElem?_append_left (by omega)]
        · rw [if_neg hin, if_neg (by omega)]
    · rw [if_neg hs, mix_get, if_pos h]
      by_cases hin : at_ ≤ 64 * s + i ∧ 64 * s + i < at_ + b.length
      · rw [if_pos hin, if_pos (by omega)]
        simp only [List.getD]
        rw [List.getElem?_append_left (by omega)]
      · rw [if_neg hin, if_neg (by omega)]
  · rw [if_neg h]
    symm
    rw [List.getElem?_eq_none]
    split <;> simp [mix_length] <;> omega

/-- The writes of the sectors, one behind the other: as far as one goes wrong. -/
def Dv.puts : Dv → Nat → List (List UInt8) → Nat × Dv
  | d, _, [] => (0, d)
  | d, n, b :: l => if (d.write n b).1 = 0 then (d.write n b).2.puts (n + 1) l else d.write n b

/-- A write of bytes at a place of a region that begins at a sector. -/
def Dv.lay (d : Dv) (f at_ : Nat) (b : List UInt8) : Nat × Dv :=
  if b = [] then (0, d) else d.puts (f + at_ / 64) ((List.range ((at_ + b.length - 1) / 64 - at_ / 64 + 1)).map fun i => mix (d.seen (f + at_ / 64 + i)) (at_ / 64 + i) at_ b)

end Go.Proofs.YtckmpdplmpgniaaGreat
