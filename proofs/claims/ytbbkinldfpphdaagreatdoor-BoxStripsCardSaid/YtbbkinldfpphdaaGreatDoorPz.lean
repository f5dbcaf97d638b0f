/- What is laid is right and is read as the segment; what is right is laid again: of texts. -/
import Derived.Test.YtbbkinldfpphdaaGreatDoorPs
import Derived.Test.YtbbkinldfpphdaaGreatDoorPk
namespace Go.Proofs.YtbbkinldfpphdaaGreatDoor
open Go.RowKit Pl

theorem cut_data (s : ByteArray) (a b : Nat) : (s.extract a b).data.toList = cutL s.data.toList a b := by
  unfold cutL
  rw [ByteArray.data_extract, Array.toList_extract]
  apply List.ext_getElem?
  intro i
  simp only [List.extract, List.getElem?_take, List.getElem?_drop]
  by_cases h : i < b - a
  · rw [if_pos h, if_pos (by omega)]
  · rw [if_neg h, if_neg (by omega)]
theorem fl_lt (syn ackOn fin rst : Bool) : fl syn ackOn fin rst 4 < 32 ∧ fl syn ackOn fin rst 4 / 8 % 2 = 0 := by
  cases syn <;> cases ackOn <;> cases fin <;> cases rst <;> decide
theorem fl_bits (syn ackOn fin rst : Bool) : decide (fl syn ackOn fin rst 4 % 256 / 2 % 2 = 1) = syn ∧ decide (fl syn ackOn fin rst 4 % 256 / 16 % 2 = 1) = ackOn ∧ decide (fl syn ackOn fin rst 4 % 256 % 2 = 1) = fin ∧ decide (fl syn ackOn fin rst 4 % 256 / 4 % 2 = 1) = rst := by
  cases syn <;> cases ackOn <;> cases fin <;> cases rst <;> decide
theorem fl_flB (x : Nat) : fl (decide (x / 2 % 2 = 1)) (decide (x / 16 % 2 = 1)) (decide (x % 2 = 1)) (decide (x / 4 % 2 = 1)) 4 = flB x := by
  unfold fl flB; simp
/-- The bytes of a segment, as a text. -/
def segS (src dst seq ack : Nat) (syn ackOn fin rst : Bool) (win : Nat) (area data : ByteArray) : ByteArray :=
  ⟨(segL src dst seq ack (fl syn ackOn fin rst 4) win area.data.toList data.data.toList).toArray⟩
theorem segS_data (src dst seq ack : Nat) (syn ackOn fin rst : Bool) (win : Nat) (area data : ByteArray) :
    (segS src dst seq ack syn ackOn fin rst win area data).data.toList = segL src dst seq ack (fl syn ackOn fin rst 4) win area.data.toList data.data.toList := by
  unfold segS; rfl
theorem segS_size (src dst seq ack : Nat) (syn ackOn fin rst : Bool) (win : Nat) (area data : ByteArray) : (segS src dst seq ack syn ackOn fin rst win area data).size = 20 + (area.size + data.size) := by
  rw [← bytes_len, segS_data, segL_length, bytes_len, bytes_len]
theorem segS_right (src dst seq ack : Nat) (syn ackOn fin rst : Bool) (win : Nat) (area data : ByteArray) (h1 : area.size ≤ 40) (h2 : area.size % 4 = 0) (h3 : data.size ≤ 1024) :
    rightL (segS src dst seq ack syn ackOn fin rst win area data).data.toList = 0 := by
  rw [segS_data]
  exact segL_right _ _ _ _ _ _ _ _ (by rw [bytes_len]; exact h1) (by rw [bytes_len]; exact h2) (by rw [bytes_len]; exact h3) (fl_lt _ _ _ _).1 (fl_lt _ _ _ _).2
theorem segS_parse (src dst seq ack : Nat) (syn ackOn fin rst : Bool) (win : Nat) (area data : ByteArray) (h0 : src < 65536) (h1 : dst < 65536) (h2 : seq < 4294967296) (h3 : ack < 4294967296) (h4 : win < 65536)
    (h5 : area.size ≤ 40) (h6 : area.size % 4 = 0) : parseC (segS src dst seq ack syn ackOn fin rst win area data) = segC 0 src dst seq ack syn ackOn fin rst win area data := by
  have hb := fl_bits syn ackOn fin rst
  unfold parseC pf
  simp only [cut_data, segS_data, segL_12, segL_13, bytes_len, segS_size]
  have hc := segL_cuts src dst seq ack (fl syn ackOn fin rst 4) win area.data.toList data.data.toList
  rw [hc.1, hc.2.1, hc.2.2.1, hc.2.2.2.1, hc.2.2.2.2, numL_be2 _ h0, numL_be2 _ h1, numL_be4 _ h2, numL_be4 _ h3, numL_be2 _ h4, hb.1, hb.2.1, hb.2.2.1, hb.2.2.2]
  have e : 16 * (5 + area.size / 4) % 256 / 4 = 20 + area.size := by omega
  have ha := segL_area src dst seq ack (fl syn ackOn fin rst 4) win area.data.toList data.data.toList
  have hd := segL_data src dst seq ack (fl syn ackOn fin rst 4) win area.data.toList data.data.toList
  rw [bytes_len] at ha hd
  have f1 : (segS src dst seq ack syn ackOn fin rst win area data).extract 20 (20 + area.size) = area := ba_ext (by rw [cut_data, segS_data, ha])
  have f2 : (segS src dst seq ack syn ackOn fin rst win area data).extract (20 + area.size) (20 + (area.size + data.size)) = data := ba_ext (by
    rw [cut_data, segS_data, cutL, List.take_of_length_le (by rw [segL_length, bytes_len, bytes_len]; exact Nat.le_refl _), hd])
  rw [e, f1, f2]

/-- What right bytes are laid as, once they were read. -/
theorem parse_back (s : ByteArray) (h : rightL s.data.toList = 0) :
    ∃ (src dst seq ack : Nat) (syn ackOn fin rst : Bool) (win : Nat) (area data : ByteArray), parseC s = segC 0 src dst seq ack syn ackOn fin rst win area data ∧ src < 65536 ∧ dst < 65536 ∧ seq < 4294967296 ∧ ack < 4294967296 ∧ win < 65536 ∧
      area.size ≤ 40 ∧ area.size % 4 = 0 ∧ data.size ≤ 1024 ∧ s.size = 20 + (area.size + data.size) ∧
      (segS src dst seq ack syn ackOn fin rst win area data = s ∨
        (s.data.toList.drop 16).take 2 = [255, 255] ∧ ((segS src dst seq ack syn ackOn fin rst win area data).data.toList.drop 16).take 2 = [0, 0] ∧ (segS src dst seq ack syn ackOn fin rst win area data).data.toList.take 16 = s.data.toList.take 16 ∧ (segS src dst seq ack syn ackOn fin rst win area data).data.toList.drop 18 = s.data.toList.drop 18) := by
  obtain ⟨t, ht, hlen, h20, hor⟩ := back_right s.data.toList h
  have hr : 80 ≤ bn s.data.toList 12 ∧ bn s.data.toList 12 % 16 = 0 ∧ bn s.data.toList 12 / 4 ≤ s.size ∧ s.size - bn s.data.toList 12 / 4 ≤ 1024 ∧ bn s.data.toList 12 < 256 := by
    have hl := bytes_len s
    have hb := UInt8.toNat_lt (s.data.toList.getD 12 0)
    unfold rightL at h
    rw [hl] at h
    unfold bn at *
    repeat' split at h
    all_goals (first | omega | (exfalso; omega))
  obtain ⟨r1, r2, r3, r4, r5⟩ := hr
  have z1 : (s.extract 20 (bn s.data.toList 12 / 4)).size = bn s.data.toList 12 / 4 - 20 := by rw [ByteArray.size_extract]; omega
  have z2 : (s.extract (bn s.data.toList 12 / 4) s.size).size = s.size - bn s.data.toList 12 / 4 := by rw [ByteArray.size_extract]; omega
  refine ⟨_, _, _, _, _, _, _, _, _, _, _, rfl, pf_lt s 0 2, pf_lt s 2 4, pf_lt s 4 8, pf_lt s 8 12, pf_lt s 14 16, by rw [z1]; omega, by rw [z1]; omega, by rw [z2]; exact r4, by rw [z1, z2]; omega, ?_⟩
  have hd : (s.extract (bn s.data.toList 12 / 4) s.size).data.toList = s.data.toList.drop (bn s.data.toList 12 / 4) := by
    rw [cut_data, cutL, List.take_of_length_le (by rw [bytes_len]; exact Nat.le_refl _)]
  have hS : ∀ S, segS (pf s 0 2) (pf s 2 4) (pf s 4 8) (pf s 8 12) (decide (bn s.data.toList 13 / 2 % 2 = 1)) (decide (bn s.data.toList 13 / 16 % 2 = 1)) (decide (bn s.data.toList 13 % 2 = 1)) (decide (bn s.data.toList 13 / 4 % 2 = 1))
    (pf s 14 16) (s.extract 20 (bn s.data.toList 12 / 4)) (s.extract (bn s.data.toList 12 / 4) s.size) = S → S.data.toList = t := by
    intro S hS
    rw [← hS, segS_data, fl_flB, hd]
    unfold pf
    simp only [cut_data]
    exact ht.symm
  have hS2 := hS _ rfl
  rw [hS2]
  rcases hor with hor | hor
  · left; exact ba_ext (by rw [hS2, hor])
  · right; exact hor
end Go.Proofs.YtbbkinldfpphdaaGreatDoor
