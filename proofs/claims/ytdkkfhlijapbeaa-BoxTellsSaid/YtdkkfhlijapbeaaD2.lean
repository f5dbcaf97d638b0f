/- The document's Split, walked. -/
import Derived.Test.YtdkkfhlijapbeaaD1
namespace Go.Proofs.Ytdkkfhlijapbeaa
open Go.RowKit Pl

theorem rsplit_wrong (s : ByteArray) (at_ : Int) (w : World) (hz : s.size ≤ 9223372036854775807) (h : wrong s ≠ 0) :
    Calls Try.prog 27 #[.string s, .int .i64 at_] w fun e w' => e = .returned (.tuple #[.string ⟨#[]⟩, .string ⟨#[]⟩, .int .i64 (wrong s : Nat)]) ∧ Below w.heap.size w w' := by
  have HP := Lib.hid (rparse_no s hz h)
  obtain ⟨k, hk⟩ : ∃ k, wrong s = k := ⟨_, rfl⟩
  rw [hk] at HP h ⊢
  have h1 : ((k : Int) == 0) = false := by simp; omega
  have h2 : ((k : Int) != 0) = true := by simp; omega
  clear hk h
  go_enter Try.func27, Try.ntmps27
  go_wp2_with fail
  refine (HP.out _).mono ?_
  unfold Sg.v noS
  rintro e w1 ⟨rfl, hb1⟩
  go_wp2_with fail
  go_ret3
  exact ⟨rfl, hb1.alloc hb1.size _⟩

set_option maxRecDepth 20000 in
set_option maxHeartbeats 1000000 in
theorem rsplit_bad (s : ByteArray) (at_ : Int) (w : World) (hz : s.size ≤ 9223372036854775807) (h0 : wrong s = 0) (h : (readS s).syn = true ∨ (readS s).rst = true ∨ at_ < 1 ∨ ((readS s).data.size : Int) ≤ at_) :
    Calls Try.prog 27 #[.string s, .int .i64 at_] w fun e w' => e = .returned (.tuple #[.string ⟨#[]⟩, .string ⟨#[]⟩, .int .i64 2]) ∧ Below w.heap.size w w' := by
  have HP := Lib.hid (rparse_ok s hz h0)
  have hx := (read_ok s h0).1
  obtain ⟨x, ex⟩ : ∃ x, readS s = x := ⟨_, rfl⟩
  rw [ex] at HP hx h
  obtain ⟨src, dst, seq, ack, syn, ackOn, fin, rst, win, area, data⟩ := x
  have h7 := hx.h7
  simp only at h h7
  clear hx ex h0 hz
  go_enter Try.func27, Try.ntmps27
  go_wp2_with fail
  refine (HP.out _).mono ?_
  unfold Sg.v
  rintro e w1 ⟨rfl, hb1⟩
  have HB := Lib.hid (hb1.alloc hb1.size (.cells #[.int .i64 0, .int .u16 src, .int .u16 dst, .int .u32 seq, .int .u32 ack, .bool syn, .bool ackOn, .bool fin, .bool rst, .int .u16 win, .string area, .string data] 29))
  clear hb1
  have H := Lib.hid h
  clear h
  cases syn with
  | true =>
    go_wp2_with fail
    go_ret3
    exact ⟨rfl, HB.out⟩
  | false =>
    cases rst with
    | true =>
      go_wp2_with fail
      go_ret3
      exact ⟨rfl, HB.out⟩
    | false =>
      by_cases h1 : at_ < 1
      · have e1 : decide (at_ < 1) = true := by simp; omega
        go_wp2_with fail
        go_ret3
        exact ⟨rfl, HB.out⟩
      · have e1 : decide (at_ < 1) = false := by simp; omega
        have e2 : decide ((data.size : Int) ≤ at_) = true := by have := H.out; simp at this ⊢; omega
        go_wp2_with fail
        go_ret3
        exact ⟨rfl, HB.out⟩

/-- Two segments' cells. -/
def S2 (g h : Nat) (x y : List Value) (w : World) : Prop := At w g 29 x ∧ At w h 29 y

set_option maxRecDepth 20000 in
set_option maxHeartbeats 4000000 in
theorem rsplit_good (s : ByteArray) (k : Nat) (w : World) (hz : s.size ≤ 9223372036854775807) (h0 : wrong s = 0) (hs : (readS s).syn = false) (hr : (readS s).rst = false) (h1 : 1 ≤ k) (h : k < (readS s).data.size) :
    Calls Try.prog 27 #[.string s, .int .i64 k] w fun e w' => e = .returned (.tuple #[.string (splitA (readS s) k).bytes, .string (splitZ (readS s) k).bytes, .int .i64 0]) ∧ Below w.heap.size w w' := by
  have HP := Lib.hid (rparse_ok s hz h0)
  have hx := (read_ok s h0).1
  obtain ⟨x, ex⟩ : ∃ x, readS s = x := ⟨_, rfl⟩
  rw [ex] at HP hx h hs hr ⊢
  have HLa := Lib.hid (rlay_ok _ (splitA_ok hx k))
  have HLz := Lib.hid (rlay_ok _ (splitZ_ok hx k))
  obtain ⟨ta, eta⟩ : ∃ t, (splitA x k).bytes = t := ⟨_, rfl⟩
  obtain ⟨tz, etz⟩ : ∃ t, (splitZ x k).bytes = t := ⟨_, rfl⟩
  rw [eta] at HLa ⊢
  rw [etz] at HLz ⊢
  clear eta etz ex h0 hz
  obtain ⟨src, dst, seq, ack, syn, ackOn, fin, rst, win, area, data⟩ := x
  have h7 := hx.h7
  have h2 := hx.h2
  clear hx
  simp only at h h7 h2 hs hr
  subst hs hr
  unfold splitA at HLa
  unfold splitZ at HLz
  obtain ⟨a, ea⟩ : ∃ a, data.extract 0 k = a := ⟨_, rfl⟩
  obtain ⟨z, ez⟩ : ∃ z, data.extract k data.size = z := ⟨_, rfl⟩
  simp only [ea] at HLa
  simp only [ez] at HLz
  have e1 : decide ((k : Int) < 1) = false := by simp; omega
  have e2 : decide ((data.size : Int) ≤ (k : Int)) = false := by simp; omega
  go_enter Try.func27, Try.ntmps27
  go_wp2_with fail
  refine (HP.out _).mono ?_
  unfold Sg.v
  rintro e w1 ⟨rfl, hb1⟩
  have HB1 := Lib.hid hb1
  clear hb1
  have i0 : (0 : Int) ≤ (k : Int) := by omega
  have i2 : (k : Int) ≤ (data.size : Int) := by omega
  go_upto_region 7 with fail
  obtain ⟨W5, hW5⟩ : ∃ W5, ((w1.alloc (.cells #[.int .i64 0, .int .u16 src, .int .u16 dst, .int .u32 seq, .int .u32 ack, .bool false, .bool ackOn, .bool fin, .bool false, .int .u16 win, .string area, .string data] 29)).alloc (.cells #[.int .i64 0, .int .u16 src, .int .u16 dst, .int .u32 seq, .int .u32 ack, .bool false, .bool ackOn, .bool fin, .bool false, .int .u16 win, .string area, .string data] 29)) = W5 := ⟨_, rfl⟩
  rw [hW5]
  have hX5 : At W5 w1.heap.size 29 [.int .i64 0, .int .u16 src, .int .u16 dst, .int .u32 seq, .int .u32 ack, .bool false, .bool ackOn, .bool fin, .bool false, .int .u16 win, .string area, .string data] := by rw [← hW5]; exact (At.of_new _ _ _).alloc _
  have hY5 : At W5 (w1.heap.size + 1) 29 [.int .i64 0, .int .u16 src, .int .u16 dst, .int .u32 seq, .int .u32 ack, .bool false, .bool ackOn, .bool fin, .bool false, .int .u16 win, .string area, .string data] := by rw [← hW5]; exact At.new1 (At.of_new _ _ _) (by simp)
  have hB5 : Below w.heap.size w W5 := by rw [← hW5]; exact (HB1.out.alloc HB1.out.size _).alloc (by have := HB1.out.size; simp; omega) _
  obtain ⟨fx, d0, d1, d2, d3, d4, d5, d6, d7, d8, d9, d10, d11⟩ := hX5.cells12
  obtain ⟨fy, b0, b1, b2, b3, b4, b5, b6, b7, b8, b9, b10, b11⟩ := hY5.cells12
  have HX := Lib.hid hX5
  have HY := Lib.hid hY5
  have HB := Lib.hid hB5
  have HA := Lib.hid ea
  have HZ := Lib.hid ez
  clear hX5 hY5 hB5 hW5 HP
  go_region
  have nXY : w1.heap.size + 1 ≠ w1.heap.size := by omega
  have nYX : w1.heap.size ≠ w1.heap.size + 1 := by omega
  have hw1 : w.heap.size ≤ w1.heap.size := HB1.out.size
  have hX7 := (HX.out.set_ 11 (.string a)).far (p := ⟨w1.heap.size + 1, 11, none⟩) nYX (.string z)
  have hY7 := (HY.out.far (p := ⟨w1.heap.size, 11, none⟩) nXY (.string a)).set_ 11 (.string z)
  have hB7 := (HB.out.setCell (p := ⟨w1.heap.size, 11, none⟩) hw1 (.string a)).setCell (p := ⟨w1.heap.size + 1, 11, none⟩) (Nat.le_succ_of_le hw1) (.string z)
  simp only [List.set_cons_succ, List.set_cons_zero] at hX7 hY7
  obtain ⟨W8, hW8⟩ : ∃ W8, ((W5.setCell ⟨w1.heap.size, 11, none⟩ (.string a)).setCell ⟨w1.heap.size + 1, 11, none⟩ (.string z)).drew = W8 := ⟨_, rfl⟩
  have hX8 : At W8 w1.heap.size 29 [.int .i64 0, .int .u16 src, .int .u16 dst, .int .u32 seq, .int .u32 ack, .bool false, .bool ackOn, .bool fin, .bool false, .int .u16 win, .string area, .string a] := by rw [← hW8]; exact hX7
  have hY8 : At W8 (w1.heap.size + 1) 29 [.int .i64 0, .int .u16 src, .int .u16 dst, .int .u32 seq, .int .u32 ack, .bool false, .bool ackOn, .bool fin, .bool false, .int .u16 win, .string area, .string z] := by rw [← hW8]; exact hY7
  have hB8 : Below w.heap.size w W8 := by rw [← hW8]; exact hB7.drew
  rw [hW8]
  clear hW8 hX7 hY7 hB7 HX HY HB fx d0 d1 d2 d3 d4 d5 d6 d7 d8 d9 d10 d11 fy b0 b1 b2 b3 b4 b5 b6 b7 b8 b9 b10 b11
  obtain ⟨fx, d0, d1, d2, d3, d4, d5, d6, d7, d8, d9, d10, d11⟩ := hX8.cells12
  obtain ⟨fy, b0, b1, b2, b3, b4, b5, b6, b7, b8, b9, b10, b11⟩ := hY8.cells12
  have HX9 := Lib.hid (hX8.set_ 7 (.bool false))
  have HY9 := Lib.hid (hY8.far (p := ⟨w1.heap.size, 7, none⟩) nXY (.bool false))
  have HB9 := Lib.hid (hB8.setCell (p := ⟨w1.heap.size, 7, none⟩) hw1 (.bool false))
  clear hX8 hY8 hB8 ea ez
  go_wp2_with fail
  refine (rplus_any seq k _ h2 (by omega)).mono ?_
  rintro e w2 ⟨rfl, rfl⟩
  have HX10 := Lib.hid (HX9.out.far (p := ⟨w1.heap.size + 1, 3, none⟩) nYX (.int .u32 (plusN seq k : Nat)))
  have HY10 := Lib.hid (HY9.out.set_ 3 (.int .u32 (plusN seq k : Nat)))
  have HB10 := Lib.hid (HB9.out.setCell (p := ⟨w1.heap.size + 1, 3, none⟩) (Nat.le_succ_of_le hw1) (.int .u32 (plusN seq k : Nat)))
  clear HX9 HY9 HB9
  go_wp2_with fail
  refine (HLa.out _).mono ?_
  rintro e w3 ⟨rfl, hb3⟩
  have HB11 := Lib.hid (HB10.out.trans (hb3.mono HB10.out.size))
  have hY11 := HY10.out.kept hb3
  simp only [List.set_cons_succ, List.set_cons_zero] at hY11
  clear hb3 HX10 HB10 HY10 fx d0 d1 d2 d3 d4 d5 d6 d7 d8 d9 d10 d11 fy b0 b1 b2 b3 b4 b5 b6 b7 b8 b9 b10 b11 HLa
  obtain ⟨fy, b0, b1, b2, b3, b4, b5, b6, b7, b8, b9, b10, b11⟩ := hY11.cells12
  clear hY11
  go_wp2_with fail
  refine (HLz.out _).mono ?_
  rintro e w4 ⟨rfl, hb4⟩
  have HB12 := Lib.hid (HB11.out.trans (hb4.mono HB11.out.size))
  clear hb4 HB11 fy b0 b1 b2 b3 b4 b5 b6 b7 b8 b9 b10 b11 HLz
  go_wp2_with fail
  go_ret3
  exact ⟨rfl, HB12.out⟩

theorem rsplit_any (s : ByteArray) (at_ : Int) (w : World) (hz : s.size ≤ 9223372036854775807) :
    Calls Try.prog 27 #[.string s, .int .i64 at_] w fun e w' => e = .returned (.tuple #[.string (splitR s at_).1, .string (splitR s at_).2.1, .int .i64 (splitR s at_).2.2]) ∧ Below w.heap.size w w' := by
  unfold splitR
  by_cases h : wrong s = 0
  · rw [if_neg (by simpa using h)]
    by_cases hb : (readS s).syn = true ∨ (readS s).rst = true ∨ at_ < 1 ∨ ((readS s).data.size : Int) ≤ at_
    · rw [if_pos hb]
      exact rsplit_bad s at_ w hz h hb
    · rw [if_neg hb]
      obtain ⟨k, rfl⟩ : ∃ k : Nat, at_ = k := ⟨at_.toNat, by omega⟩
      exact rsplit_good s k w hz h (by cases e : (readS s).syn <;> simp_all) (by cases e : (readS s).rst <;> simp_all) (by omega) (by omega)
  · rw [if_pos h]
    exact rsplit_wrong s at_ w hz h
end Go.Proofs.Ytdkkfhlijapbeaa
