/- Plain laws of segments' bytes: what is laid is right and is read back; what is right is laid again; one byte otherwise is never right. No program is named here. -/
import Derived.Test.YtbbkinldfpphdaaGreatDoorPl
namespace Go.Proofs.YtbbkinldfpphdaaGreatDoor.Pl

theorem sumL_cons2 (a b : UInt8) (r : List UInt8) : sumL (a :: b :: r) = (a.toNat * 256 + b.toNat) + sumL r := by
  simp [sumL, wordsL]
theorem sumL_append : ∀ (p q : List UInt8), p.length % 2 = 0 → sumL (p ++ q) = sumL p + sumL q
  | [], q, _ => by simp [sumL, wordsL]
  | [a], _, h => by simp at h
  | a :: b :: r, q, h => by
    have h2 : r.length % 2 = 0 := by simp only [List.length_cons] at h; omega
    rw [List.cons_append, List.cons_append, sumL_cons2, sumL_cons2, sumL_append r q h2]
    omega
theorem sumL_be2 (n : Nat) (h : n < 65536) : sumL (beL 2 n) = n := by
  have e : beL 2 n = [UInt8.ofNat (n / 256), UInt8.ofNat n] := rfl
  rw [e, sumL_cons2, UInt8.toNat_ofNat', UInt8.toNat_ofNat']
  simp only [sumL, wordsL, List.sum_nil]
  omega
theorem numL_be2 (n : Nat) (h : n < 65536) : numL (beL 2 n) = n := by
  have e : beL 2 n = [UInt8.ofNat (n / 256), UInt8.ofNat n] := rfl
  rw [e]
  simp only [numL, List.foldl_cons, List.foldl_nil, UInt8.toNat_ofNat']
  omega
theorem numL_be4 (n : Nat) (h : n < 4294967296) : numL (beL 4 n) = n := by
  have e : beL 4 n = [UInt8.ofNat (n / 256 / 256 / 256), UInt8.ofNat (n / 256 / 256), UInt8.ofNat (n / 256), UInt8.ofNat n] := rfl
  rw [e]
  simp only [numL, List.foldl_cons, List.foldl_nil, UInt8.toNat_ofNat']
  omega
theorem be2_num (a b : UInt8) : beL 2 (numL [a, b]) = [a, b] := by
  have e : ∀ n, beL 2 n = [UInt8.ofNat (n / 256), UInt8.ofNat n] := fun _ => rfl
  have ha := a.toNat_lt
  have hb := b.toNat_lt
  rw [e]
  simp only [numL, List.foldl_cons, List.foldl_nil]
  congr 1
  · apply UInt8.toNat_inj.1; rw [UInt8.toNat_ofNat']; omega
  · congr 1
    apply UInt8.toNat_inj.1; rw [UInt8.toNat_ofNat']; omega
theorem be4_num (a b c d : UInt8) : beL 4 (numL [a, b, c, d]) = [a, b, c, d] := by
  have e : ∀ n, beL 4 n = [UInt8.ofNat (n / 256 / 256 / 256), UInt8.ofNat (n / 256 / 256), UInt8.ofNat (n / 256), UInt8.ofNat n] := fun _ => rfl
  have ha := a.toNat_lt
  have hb := b.toNat_lt
  have hc := c.toNat_lt
  have hd := d.toNat_lt
  rw [e]
  simp only [numL, List.foldl_cons, List.foldl_nil]
  congr 1
  · apply UInt8.toNat_inj.1; rw [UInt8.toNat_ofNat']; omega
  · congr 1
    · apply UInt8.toNat_inj.1; rw [UInt8.toNat_ofNat']; omega
    · congr 1
      · apply UInt8.toNat_inj.1; rw [UInt8.toNat_ofNat']; omega
      · congr 1
        apply UInt8.toNat_inj.1; rw [UInt8.toNat_ofNat']; omega

/-- The first sixteen bytes. -/
def pre16 (src dst seq ack n F win : Nat) : List UInt8 :=
  beL 2 src ++ (beL 2 dst ++ (beL 4 seq ++ (beL 4 ack ++ (UInt8.ofNat (16 * (5 + n / 4)) :: UInt8.ofNat F :: beL 2 win))))
theorem pre16_length (src dst seq ack n F win : Nat) : (pre16 src dst seq ack n F win).length = 16 := rfl
theorem headB_split (src dst seq ack n F win sm : Nat) : headB src dst seq ack n F win sm = pre16 src dst seq ack n F win ++ (beL 2 sm ++ [0, 0]) := rfl
theorem sum_head (src dst seq ack n F win sm : Nat) (rest : List UInt8) (h : sm < 65536) :
    sumL (headB src dst seq ack n F win sm ++ rest) = sumL (pre16 src dst seq ack n F win ++ rest) + sm := by
  have e1 := sumL_append (pre16 src dst seq ack n F win) ((beL 2 sm ++ [0, 0]) ++ rest) (by rw [pre16_length])
  have e2 := sumL_append (pre16 src dst seq ack n F win) rest (by rw [pre16_length])
  have e3 := sumL_append (beL 2 sm ++ [0, 0]) rest (by simp [beL_length])
  have e4 := sumL_append (beL 2 sm) [0, 0] (by simp [beL_length])
  have e5 : sumL [0, 0] = 0 := by decide
  rw [headB_split, List.append_assoc, e1, e2, e3, e4, sumL_be2 _ h, e5]
  omega
theorem ckS_eq (src dst seq ack F win : Nat) (area data : List UInt8) : ckS src dst seq ack F win area data = 65535 - fold (sumL (pre16 src dst seq ack area.length F win ++ (area ++ data))) := by
  unfold ckS; rw [sum_head _ _ _ _ _ _ _ _ _ (by omega), Nat.add_zero]
theorem ckS_lt (src dst seq ack F win : Nat) (area data : List UInt8) : ckS src dst seq ack F win area data < 65536 := by unfold ckS; omega
theorem fold_whole (S : Nat) : fold (S + (65535 - fold S)) = 65535 := by
  unfold fold
  by_cases h : S = 0
  · subst h; simp
  · rw [if_neg h]
    have h1 := Nat.mod_lt (S - 1) (show 0 < 65535 by omega)
    rw [if_neg (by omega)]
    omega
theorem fold_of (S c : Nat) (hS : 0 < S) (hc : c < 65536) (h : fold (S + c) = 65535) : c = 65535 - fold S ∨ (c = 65535 ∧ 65535 - fold S = 0) := by
  unfold fold at *
  rw [if_neg (by omega)] at h
  rw [if_neg (by omega)]
  omega

theorem segL_length (src dst seq ack F win : Nat) (area data : List UInt8) : (segL src dst seq ack F win area data).length = 20 + (area.length + data.length) := by
  unfold segL; rw [List.length_append, List.length_append, headB_length]
theorem segL_sum (src dst seq ack F win : Nat) (area data : List UInt8) : fold (sumL (segL src dst seq ack F win area data)) = 65535 := by
  unfold segL
  rw [sum_head _ _ _ _ _ _ _ _ _ (ckS_lt _ _ _ _ _ _ _ _), ckS_eq]
  exact fold_whole _
theorem segL_12 (src dst seq ack F win : Nat) (area data : List UInt8) : bn (segL src dst seq ack F win area data) 12 = 16 * (5 + area.length / 4) % 256 := by
  show (UInt8.ofNat (16 * (5 + area.length / 4))).toNat = _
  rw [UInt8.toNat_ofNat']
theorem segL_13 (src dst seq ack F win : Nat) (area data : List UInt8) : bn (segL src dst seq ack F win area data) 13 = F % 256 := by
  show (UInt8.ofNat F).toNat = _
  rw [UInt8.toNat_ofNat']
theorem segL_right (src dst seq ack F win : Nat) (area data : List UInt8) (h1 : area.length ≤ 40) (h2 : area.length % 4 = 0) (h3 : data.length ≤ 1024) (hF : F < 32) (hF2 : F / 8 % 2 = 0) :
    rightL (segL src dst seq ack F win area data) = 0 := by
  unfold rightL
  rw [segL_length, segL_12, segL_13, segL_sum]
  have e18 : bn (segL src dst seq ack F win area data) 18 = 0 := rfl
  have e19 : bn (segL src dst seq ack F win area data) 19 = 0 := rfl
  rw [e18, e19]
  rw [if_neg (by omega), if_neg (by omega), if_neg (by omega), if_neg (by omega), if_neg (by omega), if_neg (by omega)]

/-- Bytes a to b. -/
def cutL (l : List UInt8) (a b : Nat) : List UInt8 := (l.take b).drop a
theorem segL_cuts (src dst seq ack F win : Nat) (area data : List UInt8) :
    cutL (segL src dst seq ack F win area data) 0 2 = beL 2 src ∧ cutL (segL src dst seq ack F win area data) 2 4 = beL 2 dst ∧ cutL (segL src dst seq ack F win area data) 4 8 = beL 4 seq ∧
    cutL (segL src dst seq ack F win area data) 8 12 = beL 4 ack ∧ cutL (segL src dst seq ack F win area data) 14 16 = beL 2 win :=
  ⟨rfl, rfl, rfl, rfl, rfl⟩
theorem segL_area (src dst seq ack F win : Nat) (area data : List UInt8) : cutL (segL src dst seq ack F win area data) 20 (20 + area.length) = area := by
  unfold cutL segL
  have e : (20 : Nat) = (headB src dst seq ack area.length F win (ckS src dst seq ack F win area data)).length := rfl
  rw [show 20 + area.length = (headB src dst seq ack area.length F win (ckS src dst seq ack F win area data)).length + area.length from rfl, List.take_length_add_append, List.take_left]
  conv => lhs; rw [e]
  rw [List.drop_left]
theorem segL_data (src dst seq ack F win : Nat) (area data : List UInt8) : (segL src dst seq ack F win area data).drop (20 + area.length) = data := by
  unfold segL
  rw [show 20 + area.length = (headB src dst seq ack area.length F win (ckS src dst seq ack F win area data)).length + area.length from rfl, List.drop_length_add_append, List.drop_left]

/-- A list of twenty at least. -/
theorem uncons {l : List UInt8} {n : Nat} (h : n + 1 ≤ l.length) : ∃ b r, l = b :: r ∧ n ≤ r.length := by
  cases l with
  | nil => simp at h
  | cons b r => exact ⟨b, r, rfl, by simpa using h⟩
theorem twenty (l : List UInt8) (h : 20 ≤ l.length) : ∃ b0 b1 b2 b3 b4 b5 b6 b7 b8 b9 b10 b11 b12 b13 b14 b15 b16 b17 b18 b19 r, l = b0 :: b1 :: b2 :: b3 :: b4 :: b5 :: b6 :: b7 :: b8 :: b9 :: b10 :: b11 :: b12 :: b13 :: b14 :: b15 :: b16 :: b17 :: b18 :: b19 :: r := by
  obtain ⟨b0, l1, e0, h⟩ := uncons h
  obtain ⟨b1, l2, e1, h⟩ := uncons h
  obtain ⟨b2, l3, e2, h⟩ := uncons h
  obtain ⟨b3, l4, e3, h⟩ := uncons h
  obtain ⟨b4, l5, e4, h⟩ := uncons h
  obtain ⟨b5, l6, e5, h⟩ := uncons h
  obtain ⟨b6, l7, e6, h⟩ := uncons h
  obtain ⟨b7, l8, e7, h⟩ := uncons h
  obtain ⟨b8, l9, e8, h⟩ := uncons h
  obtain ⟨b9, l10, e9, h⟩ := uncons h
  obtain ⟨b10, l11, e10, h⟩ := uncons h
  obtain ⟨b11, l12, e11, h⟩ := uncons h
  obtain ⟨b12, l13, e12, h⟩ := uncons h
  obtain ⟨b13, l14, e13, h⟩ := uncons h
  obtain ⟨b14, l15, e14, h⟩ := uncons h
  obtain ⟨b15, l16, e15, h⟩ := uncons h
  obtain ⟨b16, l17, e16, h⟩ := uncons h
  obtain ⟨b17, l18, e17, h⟩ := uncons h
  obtain ⟨b18, l19, e18, h⟩ := uncons h
  obtain ⟨b19, l20, e19, h⟩ := uncons h
  rw [e0, e1, e2, e3, e4, e5, e6, e7, e8, e9, e10, e11, e12, e13, e14, e15, e16, e17, e18, e19]
  exact ⟨b0, b1, b2, b3, b4, b5, b6, b7, b8, b9, b10, b11, b12, b13, b14, b15, b16, b17, b18, b19, l20, rfl⟩

/-- The flags that a byte bears. -/
def flB (x : Nat) : Nat := (if x % 2 = 1 then 1 else 0) + (if x / 2 % 2 = 1 then 2 else 0) + (if x / 4 % 2 = 1 then 4 else 0) + (if x / 16 % 2 = 1 then 16 else 0)
theorem flB_eq (x : Nat) (h : x < 32) (h2 : x / 8 % 2 = 0) : flB x = x := by
  have : ∀ x : Fin 32, x.val / 8 % 2 = 0 → flB x.val = x.val := by decide +kernel
  exact this ⟨x, h⟩ h2

/-- What right bytes are laid as, once they were read: the same, but for a sum of 65535. -/
theorem back_right (l : List UInt8) (h : rightL l = 0) :
    ∃ t, t = segL (numL (cutL l 0 2)) (numL (cutL l 2 4)) (numL (cutL l 4 8)) (numL (cutL l 8 12)) (flB (bn l 13)) (numL (cutL l 14 16)) (cutL l 20 (bn l 12 / 4)) (l.drop (bn l 12 / 4)) ∧
      t.length = l.length ∧ 20 ≤ l.length ∧ (t = l ∨ (l.drop 16).take 2 = [255, 255] ∧ (t.drop 16).take 2 = [0, 0] ∧ t.take 16 = l.take 16 ∧ t.drop 18 = l.drop 18) := by
  have hr : 20 ≤ l.length ∧ 80 ≤ bn l 12 ∧ bn l 12 % 16 = 0 ∧ bn l 12 / 4 ≤ l.length ∧ bn l 13 / 32 = 0 ∧ bn l 13 / 8 % 2 = 0 ∧ bn l 18 = 0 ∧ bn l 19 = 0 ∧ fold (sumL l) = 65535 := by
    unfold rightL at h
    repeat' split at h
    all_goals (first | omega | (exfalso; omega))
  obtain ⟨h20, h80, h16, h4, g13, g13', g18, g19, hf⟩ := hr
  obtain ⟨b0, b1, b2, b3, b4, b5, b6, b7, b8, b9, b10, b11, b12, b13, b14, b15, b16, b17, b18, b19, r, rfl⟩ := twenty l h20
  have e12 : bn (b0 :: b1 :: b2 :: b3 :: b4 :: b5 :: b6 :: b7 :: b8 :: b9 :: b10 :: b11 :: b12 :: b13 :: b14 :: b15 :: b16 :: b17 :: b18 :: b19 :: r) 12 = b12.toNat := rfl
  have e13 : bn (b0 :: b1 :: b2 :: b3 :: b4 :: b5 :: b6 :: b7 :: b8 :: b9 :: b10 :: b11 :: b12 :: b13 :: b14 :: b15 :: b16 :: b17 :: b18 :: b19 :: r) 13 = b13.toNat := rfl
  have e18 : bn (b0 :: b1 :: b2 :: b3 :: b4 :: b5 :: b6 :: b7 :: b8 :: b9 :: b10 :: b11 :: b12 :: b13 :: b14 :: b15 :: b16 :: b17 :: b18 :: b19 :: r) 18 = b18.toNat := rfl
  have e19 : bn (b0 :: b1 :: b2 :: b3 :: b4 :: b5 :: b6 :: b7 :: b8 :: b9 :: b10 :: b11 :: b12 :: b13 :: b14 :: b15 :: b16 :: b17 :: b18 :: b19 :: r) 19 = b19.toNat := rfl
  rw [e12] at h80 h16 h4
  rw [e13] at g13 g13'
  rw [e18] at g18
  rw [e19] at g19
  rw [e12, e13]
  obtain rfl : b18 = 0 := UInt8.toNat_inj.1 g18
  obtain rfl : b19 = 0 := UInt8.toNat_inj.1 g19
  have l12 := b12.toNat_lt
  obtain ⟨k, hk⟩ : ∃ k, b12.toNat / 4 = 20 + k := ⟨b12.toNat / 4 - 20, by omega⟩
  have hkr : k ≤ r.length := by simp only [List.length_cons] at h4; omega
  have c0 : cutL (b0 :: b1 :: b2 :: b3 :: b4 :: b5 :: b6 :: b7 :: b8 :: b9 :: b10 :: b11 :: b12 :: b13 :: b14 :: b15 :: b16 :: b17 :: 0 :: 0 :: r) 20 (b12.toNat / 4) = r.take k := by
    rw [hk, Nat.add_comm 20 k]; rfl
  have c1 : (b0 :: b1 :: b2 :: b3 :: b4 :: b5 :: b6 :: b7 :: b8 :: b9 :: b10 :: b11 :: b12 :: b13 :: b14 :: b15 :: b16 :: b17 :: 0 :: 0 :: r).drop (b12.toNat / 4) = r.drop k := by
    rw [hk, Nat.add_comm 20 k]; rfl
  rw [c0, c1, flB_eq _ (by omega) g13']
  refine ⟨_, rfl, ?_, h20, ?_⟩
  · rw [segL_length, List.length_take, List.length_drop]; simp only [List.length_cons]; omega
  have q0 : numL (cutL (b0 :: b1 :: b2 :: b3 :: b4 :: b5 :: b6 :: b7 :: b8 :: b9 :: b10 :: b11 :: b12 :: b13 :: b14 :: b15 :: b16 :: b17 :: 0 :: 0 :: r) 0 2) = numL [b0, b1] := rfl
  have q1 : numL (cutL (b0 :: b1 :: b2 :: b3 :: b4 :: b5 :: b6 :: b7 :: b8 :: b9 :: b10 :: b11 :: b12 :: b13 :: b14 :: b15 :: b16 :: b17 :: 0 :: 0 :: r) 2 4) = numL [b2, b3] := rfl
  have q2 : numL (cutL (b0 :: b1 :: b2 :: b3 :: b4 :: b5 :: b6 :: b7 :: b8 :: b9 :: b10 :: b11 :: b12 :: b13 :: b14 :: b15 :: b16 :: b17 :: 0 :: 0 :: r) 4 8) = numL [b4, b5, b6, b7] := rfl
  have q3 : numL (cutL (b0 :: b1 :: b2 :: b3 :: b4 :: b5 :: b6 :: b7 :: b8 :: b9 :: b10 :: b11 :: b12 :: b13 :: b14 :: b15 :: b16 :: b17 :: 0 :: 0 :: r) 8 12) = numL [b8, b9, b10, b11] := rfl
  have q4 : numL (cutL (b0 :: b1 :: b2 :: b3 :: b4 :: b5 :: b6 :: b7 :: b8 :: b9 :: b10 :: b11 :: b12 :: b13 :: b14 :: b15 :: b16 :: b17 :: 0 :: 0 :: r) 14 16) = numL [b14, b15] := rfl
  rw [q0, q1, q2, q3, q4]
  have hlen : (r.take k).length = k := by rw [List.length_take]; omega
  have hp : pre16 (numL [b0, b1]) (numL [b2, b3]) (numL [b4, b5, b6, b7]) (numL [b8, b9, b10, b11]) k b13.toNat (numL [b14, b15]) = [b0, b1, b2, b3, b4, b5, b6, b7, b8, b9, b10, b11, b12, b13, b14, b15] := by
    unfold pre16
    rw [be2_num, be2_num, be4_num, be4_num, be2_num]
    have x12 : UInt8.ofNat (16 * (5 + k / 4)) = b12 := by
      apply UInt8.toNat_inj.1; rw [UInt8.toNat_ofNat']; omega
    have x13 : UInt8.ofNat b13.toNat = b13 := by
      apply UInt8.toNat_inj.1; rw [UInt8.toNat_ofNat']; have := b13.toNat_lt; omega
    rw [x12, x13]; rfl
  obtain ⟨c, hc⟩ : ∃ c, numL [b16, b17] = c := ⟨_, rfl⟩
  have hc2 : c < 65536 := by have := numL_lt [b16, b17]; rw [hc] at this; simpa using this
  have hck : ∀ s, fold (sumL ([b0, b1, b2, b3, b4, b5, b6, b7, b8, b9, b10, b11, b12, b13, b14, b15] ++ r)) = s →
      ckS (numL [b0, b1]) (numL [b2, b3]) (numL [b4, b5, b6, b7]) (numL [b8, b9, b10, b11]) b13.toNat (numL [b14, b15]) (r.take k) (r.drop k) = 65535 - s := by
    intro s hs
    rw [ckS_eq, hlen, hp, List.take_append_drop, hs]
  have hS : sumL (b0 :: b1 :: b2 :: b3 :: b4 :: b5 :: b6 :: b7 :: b8 :: b9 :: b10 :: b11 :: b12 :: b13 :: b14 :: b15 :: b16 :: b17 :: 0 :: 0 :: r) = sumL ([b0, b1, b2, b3, b4, b5, b6, b7, b8, b9, b10, b11, b12, b13, b14, b15] ++ r) + c := by
    rw [← hc]
    simp only [List.cons_append, List.nil_append, sumL_cons2, numL, List.foldl_cons, List.foldl_nil, UInt8.toNat_zero]
    omega
  have hpos : 0 < sumL ([b0, b1, b2, b3, b4, b5, b6, b7, b8, b9, b10, b11, b12, b13, b14, b15] ++ r) := by
    simp only [List.cons_append, List.nil_append, sumL_cons2]
    omega
  rw [hS] at hf
  have hfo := fold_of _ c hpos hc2 hf
  have hseg : ∀ x, 65535 - fold (sumL ([b0, b1, b2, b3, b4, b5, b6, b7, b8, b9, b10, b11, b12, b13, b14, b15] ++ r)) = x →
      segL (numL [b0, b1]) (numL [b2, b3]) (numL [b4, b5, b6, b7]) (numL [b8, b9, b10, b11]) b13.toNat (numL [b14, b15]) (r.take k) (r.drop k) = [b0, b1, b2, b3, b4, b5, b6, b7, b8, b9, b10, b11, b12, b13, b14, b15] ++ (beL 2 x ++ (0 :: 0 :: r)) := by
    intro x hx
    unfold segL
    rw [hck _ rfl, hx, headB_split, hlen, hp, List.take_append_drop]
    simp [List.append_assoc]
  rcases hfo with hfo | ⟨hfo, hz⟩
  · left
    rw [hseg c hfo.symm, ← hc, be2_num]
    rfl
  · right
    rw [hseg 0 hz]
    subst hfo
    have hb := be2_num b16 b17
    rw [hc] at hb
    have hb2 : beL 2 65535 = [255, 255] := by decide
    rw [hb2] at hb
    simp only [List.cons.injEq, and_true] at hb
    obtain ⟨rfl, rfl⟩ := hb
    exact ⟨rfl, rfl, rfl, rfl⟩

theorem sumL_set : ∀ (l : List UInt8) (m : Nat) (v : UInt8), m < l.length →
    sumL (l.set m v) + (if m % 2 = 0 then 256 else 1) * (l.getD m 0).toNat = sumL l + (if m % 2 = 0 then 256 else 1) * v.toNat
  | [], _, _, h => by simp at h
  | [a], 0, v, _ => by simp [sumL, wordsL]; omega
  | [a], m + 1, v, h => by simp at h
  | a :: b :: r, 0, v, _ => by simp [sumL_cons2]; omega
  | a :: b :: r, 1, v, _ => by simp [sumL_cons2]; omega
  | a :: b :: r, m + 2, v, h => by
    have ih := sumL_set r m v (by simpa using h)
    have e1 : (a :: b :: r).set (m + 2) v = a :: b :: r.set m v := rfl
    have e2 : (a :: b :: r).getD (m + 2) 0 = r.getD m 0 := rfl
    have e3 : (m + 2) % 2 = m % 2 := by omega
    rw [e1, e2, e3, sumL_cons2, sumL_cons2]
    omega
theorem byte_wrong (l : List UInt8) (m : Nat) (v : UInt8) (hm : m < l.length) (h : fold (sumL l) = 65535) (hv : v ≠ l.getD m 0) : rightL (l.set m v) ≠ 0 := by
  have hs := sumL_set l m v hm
  have hv2 : v.toNat ≠ (l.getD m 0).toNat := fun e => hv (UInt8.toNat_inj.1 e)
  have l1 := v.toNat_lt
  have l2 := (l.getD m 0).toNat_lt
  have hf : fold (sumL (l.set m v)) ≠ 65535 := by
    generalize sumL (l.set m v) = A at *
    generalize sumL l = B at *
    unfold fold at *
    intro h2
    split at hs
    all_goals
      split at h
      · omega
      · split at h2
        · omega
        · omega
  unfold rightL
  repeat' split
  all_goals omega

end Go.Proofs.YtbbkinldfpphdaaGreatDoor.Pl
