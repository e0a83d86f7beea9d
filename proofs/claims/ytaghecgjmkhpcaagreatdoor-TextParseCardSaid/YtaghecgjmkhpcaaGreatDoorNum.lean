/-
Plain numbers: big-endian numbers in lists of bytes. No program is spoken of.
-/
namespace Go.Proofs.YtaghecgjmkhpcaaGreatDoor
set_option linter.unusedVariables false
set_option linter.unusedSimpArgs false

/-- The number whose bytes these are, the most significant one first. -/
def beN (l : List UInt8) : Nat := l.foldl (fun a x => a * 256 + x.toNat) 0
theorem beN_from (l : List UInt8) (a : Nat) : l.foldl (fun a x => a * 256 + x.toNat) a = a * 256 ^ l.length + beN l := by
  induction l generalizing a with
  | nil => simp [beN]
  | cons x l ih =>
    simp only [List.foldl_cons, beN, List.length_cons]
    rw [ih, ih (0 * 256 + x.toNat), Nat.pow_succ, Nat.add_mul, Nat.zero_mul, Nat.zero_add, Nat.mul_assoc, Nat.mul_comm 256, Nat.add_assoc]
theorem beN_nil : beN [] = 0 := rfl
theorem beN_append (l m : List UInt8) : beN (l ++ m) = beN l * 256 ^ m.length + beN m := by
  unfold beN
  rw [List.foldl_append, beN_from]
  rfl
theorem beN_snoc (l : List UInt8) (x : UInt8) : beN (l ++ [x]) = beN l * 256 + x.toNat := by
  rw [beN_append]; simp [beN]
theorem snoc_ind {α : Type} {p : List α → Prop} (l : List α) (h0 : p []) (h1 : ∀ l x, p l → p (l ++ [x])) : p l := by
  have key : ∀ m : List α, p m.reverse := by
    intro m
    induction m with
    | nil => exact h0
    | cons x m ih => rw [List.reverse_cons]; exact h1 _ _ ih
  have := key l.reverse
  rwa [List.reverse_reverse] at this
theorem beN_lt (l : List UInt8) : beN l < 256 ^ l.length := by
  induction l using snoc_ind with
  | h0 => simp [beN]
  | h1 l x ih =>
    rw [beN_snoc, List.length_append, List.length_singleton, Nat.pow_succ]
    have := x.toNat_lt
    omega

/-- The bytes of a number, so many of them, the most significant one first. -/
def enc : Nat → Nat → List UInt8
  | 0, _ => []
  | s + 1, n => enc s (n / 256) ++ [UInt8.ofNat n]
theorem enc_length (s n : Nat) : (enc s n).length = s := by
  induction s generalizing n with
  | zero => rfl
  | succ s ih => simp [enc, ih]
theorem beN_enc (s n : Nat) (h : n < 256 ^ s) : beN (enc s n) = n := by
  induction s generalizing n with
  | zero => simp [enc, beN] at *; omega
  | succ s ih =>
    rw [Nat.pow_succ] at h
    rw [enc, beN_snoc, ih (n / 256) (by omega), UInt8.toNat_ofNat']
    omega
theorem enc_beN (l : List UInt8) : enc l.length (beN l) = l := by
  induction l using snoc_ind with
  | h0 => rfl
  | h1 l x ih =>
    have hx := x.toNat_lt
    rw [List.length_append, List.length_singleton, enc, beN_snoc]
    have h1 : (beN l * 256 + x.toNat) / 256 = beN l := by omega
    have h2 : UInt8.ofNat (beN l * 256 + x.toNat) = x := by
      apply UInt8.toNat_inj.1
      rw [UInt8.toNat_ofNat']
      omega
    rw [h1, ih, h2]
theorem beN_inj {l m : List UInt8} (hl : l.length = m.length) (h : beN l = beN m) : l = m := by
  rw [← enc_beN l, ← enc_beN m, hl, h]

/-- Do so many bytes stand there? -/
def withinB (n : Nat) (a s : Int) : Bool := decide (1 ≤ s ∧ s ≤ 8 ∧ 0 ≤ a ∧ a + s ≤ n)
theorem withinB_iff {n : Nat} {a s : Int} : withinB n a s = true ↔ 1 ≤ s ∧ s ≤ 8 ∧ 0 ≤ a ∧ a + s ≤ n := by simp [withinB]
/-- Has a number room in so many bytes? -/
def fitsB (s : Int) (n : Nat) : Bool := decide (1 ≤ s ∧ s ≤ 8 ∧ n < 256 ^ s.toNat)
theorem fitsB_iff {s : Int} {n : Nat} : fitsB s n = true ↔ 1 ≤ s ∧ s ≤ 8 ∧ n < 256 ^ s.toNat := by simp [fitsB]
/-- The bytes that stand there. -/
def part (l : List UInt8) (a s : Nat) : List UInt8 := (l.drop a).take s
theorem part_length {l : List UInt8} {a s : Nat} (h : a + s ≤ l.length) : (part l a s).length = s := by simp [part]; omega
def getN (l : List UInt8) (a s : Int) : Nat := if withinB l.length a s then beN (part l a.toNat s.toNat) else 0
def splice' (l : List UInt8) (a : Nat) (m : List UInt8) : List UInt8 := l.take a ++ m ++ l.drop (a + m.length)
theorem splice'_length {l m : List UInt8} {a : Nat} (h : a + m.length ≤ l.length) : (splice' l a m).length = l.length := by simp [splice']; omega
def putB (l : List UInt8) (a s : Int) (n : Nat) : Bool := withinB l.length a s && fitsB s n
def putL (l : List UInt8) (a s : Int) (n : Nat) : List UInt8 := if putB l a s n then splice' l a.toNat (enc s.toNat n) else l
def appL (l : List UInt8) (s : Int) (n : Nat) : List UInt8 := if fitsB s n then l ++ enc s.toNat n else l
theorem putL_length (l : List UInt8) (a s : Int) (n : Nat) : (putL l a s n).length = l.length := by
  unfold putL
  split
  · rename_i h
    simp only [putB, Bool.and_eq_true, withinB_iff] at h
    exact splice'_length (by rw [enc_length]; omega)
  · rfl
theorem enc_cons (s n : Nat) : enc (s + 1) n = UInt8.ofNat (n / 256 ^ s) :: enc s n := by
  induction s generalizing n with
  | zero => simp [enc]
  | succ s ih =>
    rw [enc, ih (n / 256), enc]
    simp only [List.cons_append]
    rw [Nat.div_div_eq_div_mul, Nat.pow_succ, Nat.mul_comm 256]
theorem splice'_nil (l : List UInt8) (a : Nat) : splice' l a [] = l := by simp [splice']
/-- One byte more, ahead of those that are written. -/
theorem splice'_set (l m : List UInt8) (a : Nat) (x : UInt8) (h : a + 1 + m.length ≤ l.length) : (splice' l (a + 1) m).set a x = splice' l a (x :: m) := by
  have hlt : a < l.length := by omega
  have e1 : (l.take a).length = a := by simp; omega
  unfold splice'
  rw [List.take_succ_eq_append_getElem hlt, List.append_assoc, List.append_assoc, List.set_append, e1, if_neg (by omega), Nat.sub_self]
  rw [show a + 1 + m.length = a + (x :: m).length by simp; omega]
  simp
theorem pow_le_8 (s : Int) (h : s ≤ 8) : 256 ^ s.toNat ≤ 18446744073709551616 := by
  have : (256 : Nat) ^ s.toNat ≤ 256 ^ 8 := Nat.pow_le_pow_right (by omega) (by omega)
  simpa using this
theorem getN_lt (l : List UInt8) (a s : Int) : getN l a s < 18446744073709551616 := by
  unfold getN
  split
  · rename_i h
    rw [withinB_iff] at h
    have h1 := beN_lt (part l a.toNat s.toNat)
    rw [part_length (by omega)] at h1
    have := pow_le_8 s h.2.1
    omega
  · omega
theorem part_splice (l m : List UInt8) (a : Nat) (h : a + m.length ≤ l.length) : part (splice' l a m) a m.length = m := by
  unfold part splice'
  rw [List.append_assoc, List.drop_append_of_le_length (by simp; omega), List.drop_of_length_le (by simp; omega), List.nil_append, List.take_left]
theorem take_splice (l m : List UInt8) (a : Nat) (h : a + m.length ≤ l.length) : (splice' l a m).take a = l.take a := by
  unfold splice'
  rw [List.append_assoc, List.take_append_of_le_length (by simp; omega), List.take_take, Nat.min_self]
theorem drop_splice (l m : List UInt8) (a : Nat) (h : a + m.length ≤ l.length) : (splice' l a m).drop (a + m.length) = l.drop (a + m.length) := by
  unfold splice'
  rw [List.drop_append_of_le_length (by simp; omega), List.drop_of_length_le (by simp; omega), List.nil_append]
end Go.Proofs.YtaghecgjmkhpcaaGreatDoor
