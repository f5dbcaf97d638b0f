/- Plain mathematics for this seat's proofs: sixteen-bit sums of bytes, numbers as bytes, segments as lists of bytes. No program is named here. -/
import Derived.KernelRfl
namespace Go.Proofs.YtbbkinldfpphdaaGreatDoor.Pl

/-- The sixteen-bit words of bytes, the more significant byte first; a last odd byte is followed by a zero. -/
def wordsL : List UInt8 → List Nat
  | [] => []
  | [a] => [a.toNat * 256]
  | a :: b :: r => (a.toNat * 256 + b.toNat) :: wordsL r
def sumL (l : List UInt8) : Nat := (wordsL l).sum
/-- A number brought to sixteen bits. -/
def fold (n : Nat) : Nat := if n = 0 then 0 else (n - 1) % 65535 + 1

theorem fold_small {n : Nat} (h : n ≤ 65535) : fold n = n := by
  unfold fold; split <;> omega
theorem fold_step {n : Nat} (h : 65535 < n) : fold (n / 65536 + n % 65536) = fold n := by
  unfold fold
  have e : n = 65535 * (n / 65536) + (n / 65536 + n % 65536) := by omega
  rw [if_neg (by omega), if_neg (by omega)]
  omega
theorem fold_le (n : Nat) : fold n ≤ 65535 := by unfold fold; split <;> omega

theorem xor_ones16 (a : Nat) (h : a < 65536) : a ^^^ 65535 = 65535 - a := by
  apply Nat.eq_of_testBit_eq
  intro i
  have e : 65535 - a = 2 ^ 16 - (a + 1) := by omega
  rw [e, Nat.testBit_two_pow_sub_succ (by omega : a < 2 ^ 16), Nat.testBit_xor, show (65535 : Nat) = 2 ^ 16 - 1 from rfl, Nat.testBit_two_pow_sub_one]
  by_cases hi : i < 16
  · simp [hi]
  · have : a.testBit i = false := Nat.testBit_lt_two_pow (Nat.lt_of_lt_of_le h (Nat.pow_le_pow_right (n := 2) (by omega) (Nat.le_of_not_lt hi)))
    simp [hi, this]

/-- The number that bytes are, the more significant one first. -/
def numL (l : List UInt8) : Nat := l.foldl (fun n b => n * 256 + b.toNat) 0
theorem numL_snoc (l : List UInt8) (b : UInt8) : numL (l ++ [b]) = numL l * 256 + b.toNat := by simp [numL]
theorem numL_go_lt : ∀ (l : List UInt8) (a : Nat), l.foldl (fun n b => n * 256 + b.toNat) a < (a + 1) * 256 ^ l.length
  | [], a => by simp
  | b :: l, a => by
    have h := numL_go_lt l (a * 256 + b.toNat)
    have hb := b.toNat_lt
    simp only [List.foldl_cons, List.length_cons, Nat.pow_succ]
    refine Nat.lt_of_lt_of_le h ?_
    rw [Nat.mul_comm (256 ^ l.length) 256, ← Nat.mul_assoc]
    exact Nat.mul_le_mul_right _ (by omega)
theorem numL_lt (l : List UInt8) : numL l < 256 ^ l.length := by have := numL_go_lt l 0; simpa [numL] using this
/-- A number's lowest bytes, so many, the more significant one first. -/
def beL : Nat → Nat → List UInt8
  | 0, _ => []
  | k + 1, n => beL k (n / 256) ++ [UInt8.ofNat n]
theorem beL_length : ∀ (k n : Nat), (beL k n).length = k
  | 0, _ => rfl
  | k + 1, n => by simp [beL, beL_length k]

/-- The words of bytes, as numbers below 65536. -/
def wd (a b : UInt8) : Fin 65536 := ⟨a.toNat * 256 + b.toNat, by have := a.toNat_lt; have := b.toNat_lt; omega⟩
def wordsF : List UInt8 → List (Fin 65536)
  | [] => []
  | [a] => [wd a 0]
  | a :: b :: r => wd a b :: wordsF r
theorem wordsF_val : ∀ l : List UInt8, (wordsF l).map (fun x => x.val) = wordsL l
  | [] => rfl
  | [a] => by simp [wordsF, wordsL, wd]
  | a :: b :: r => by simp [wordsF, wordsL, wd, wordsF_val r]
theorem wordsF_length : ∀ l : List UInt8, (wordsF l).length = (l.length + 1) / 2
  | [] => rfl
  | [a] => by simp [wordsF]
  | a :: b :: r => by simp only [wordsF, List.length_cons, wordsF_length r]; omega
theorem wordsF_two : ∀ (q : List UInt8) (c d : UInt8), q.length % 2 = 0 → wordsF (q ++ [c, d]) = wordsF q ++ [wd c d]
  | [], _, _, _ => rfl
  | [a], _, _, h => by simp at h
  | a :: b :: r, c, d, h => by
    simp only [List.length_cons] at h
    simp only [List.cons_append, wordsF, wordsF_two r c d (by omega)]
theorem wordsF_one : ∀ (q : List UInt8) (c : UInt8), q.length % 2 = 0 → wordsF (q ++ [c]) = wordsF q ++ [wd c 0]
  | [], _, _ => rfl
  | [a], _, h => by simp at h
  | a :: b :: r, c, h => by
    simp only [List.length_cons] at h
    simp only [List.cons_append, wordsF, wordsF_one r c (by omega)]
def sumF (l : List (Fin 65536)) : Nat := (l.map (fun x => x.val)).sum
theorem sumF_snoc (l : List (Fin 65536)) (x : Fin 65536) : sumF (l ++ [x]) = sumF l + x.val := by simp [sumF]
theorem sumF_words (l : List UInt8) : sumF (wordsF l) = sumL l := by rw [sumF, wordsF_val, sumL]
theorem sumF_le : ∀ l : List (Fin 65536), sumF l ≤ 65535 * l.length
  | [] => Nat.le_refl _
  | x :: l => by
    have := sumF_le l
    have := x.isLt
    simp only [sumF, List.map_cons, List.sum_cons, List.length_cons] at *
    omega
theorem sumL_le (l : List UInt8) : sumL l ≤ 65535 * l.length := by
  rw [← sumF_words]
  refine Nat.le_trans (sumF_le _) (Nat.mul_le_mul_left _ ?_)
  rw [wordsF_length]; omega

/-- The first twenty bytes of a segment. -/
def headB (src dst seq ack n F win sm : Nat) : List UInt8 :=
  beL 2 src ++ (beL 2 dst ++ (beL 4 seq ++ (beL 4 ack ++ (UInt8.ofNat (16 * (5 + n / 4)) :: UInt8.ofNat F :: (beL 2 win ++ (beL 2 sm ++ [0, 0]))))))
theorem headB_length (src dst seq ack n F win sm : Nat) : (headB src dst seq ack n F win sm).length = 20 := rfl
/-- The sum that a segment bears. -/
def ckS (src dst seq ack F win : Nat) (area data : List UInt8) : Nat := 65535 - fold (sumL (headB src dst seq ack area.length F win 0 ++ (area ++ data)))
/-- The bytes of a segment. -/
def segL (src dst seq ack F win : Nat) (area data : List UInt8) : List UInt8 := headB src dst seq ack area.length F win (ckS src dst seq ack F win area data) ++ (area ++ data)

/-- Byte k of bytes, as a number. -/
def bn (l : List UInt8) (k : Nat) : Nat := (l.getD k 0).toNat
/-- What is wrong with bytes, first. -/
def rightL (l : List UInt8) : Nat :=
  if l.length < 20 then 4 else if bn l 12 < 80 ∨ bn l 12 % 16 ≠ 0 then 5 else if l.length < bn l 12 / 4 then 4
  else if bn l 13 / 32 ≠ 0 ∨ bn l 13 / 8 % 2 ≠ 0 ∨ bn l 18 ≠ 0 ∨ bn l 19 ≠ 0 then 5 else if 1024 < l.length - bn l 12 / 4 then 6 else if fold (sumL l) ≠ 65535 then 10 else 0
theorem flags_mask : ∀ x : Fin 256, (x.val &&& 232 = 0 ↔ (x.val / 32 = 0 ∧ x.val / 8 % 2 = 0)) := by decide +kernel

end Go.Proofs.YtbbkinldfpphdaaGreatDoor.Pl
