/- The document's Edit, walked. -/
import Derived.Test.YtdkkfhlijapbeaaD2
namespace Go.Proofs.Ytdkkfhlijapbeaa
open Go.RowKit Pl

theorem redit_wrong (s : ByteArray) (at_ by_ : Int) (w : World) (hz : s.size ≤ 9223372036854775807) (h : wrong s ≠ 0) :
    Calls Try.prog 29 #[.string s, .int .i64 at_, .int .i64 by_] w fun e w' => e = .returned (.tuple #[.string ⟨#[]⟩, .int .i64 (wrong s : Nat)]) ∧ Below w.heap.size w w' := by
  have HP := Lib.hid (rparse_no s hz h)
  obtain ⟨k, hk⟩ : ∃ k, wrong s = k := ⟨_, rfl⟩
  rw [hk] at HP h ⊢
  have h1 : ((k : Int) == 0) = false := by simp; omega
  have h2 : ((k : Int) != 0) = true := by simp; omega
  clear hk h
  go_enter Try.func29, Try.ntmps29
  go_wp2_with fail
  refine (HP.out _).mono ?_
  unfold Sg.v noS
  rintro e w1 ⟨rfl, hb1⟩
  go_wp2_with fail
  go_ret2
  exact ⟨rfl, hb1.alloc hb1.size _⟩

set_option maxRecDepth 20000 in
set_option maxHeartbeats 1000000 in
theorem redit_bad (s : ByteArray) (at_ by_ : Int) (w : World) (hz : s.size ≤ 9223372036854775807) (h0 : wrong s = 0) (h : at_ < 0 ∨ ((readS s).data.size : Int) ≤ at_) :
    Calls Try.prog 29 #[.string s, .int .i64 at_, .int .i64 by_] w fun e w' => e = .returned (.tuple #[.string ⟨#[]⟩, .int .i64 2]) ∧ Below w.heap.size w w' := by
  have HP := Lib.hid (rparse_ok s hz h0)
  obtain ⟨x, ex⟩ : ∃ x, readS s = x := ⟨_, rfl⟩
  rw [ex] at HP h
  obtain ⟨src, dst, seq, ack, syn, ackOn, fin, rst, win, area, data⟩ := x
  simp only at h
  clear ex h0 hz
  have H := Lib.hid h
  clear h
  by_cases h1 : at_ < 0
  · have e1 : decide (at_ < 0) = true := by simp; omega
    go_enter Try.func29, Try.ntmps29
    go_wp2_with fail
    refine (HP.out _).mono ?_
    unfold Sg.v
    rintro e w1 ⟨rfl, hb1⟩
    go_wp2_with fail
    go_ret2
    exact ⟨rfl, hb1.alloc hb1.size _⟩
  · have e1 : decide (at_ < 0) = false := by simp; omega
    have e2 : decide ((data.size : Int) ≤ at_) = true := by have := H.out; simp at this ⊢; omega
    go_enter Try.func29, Try.ntmps29
    go_wp2_with fail
    refine (HP.out _).mono ?_
    unfold Sg.v
    rintro e w1 ⟨rfl, hb1⟩
    go_wp2_with fail
    go_ret2
    exact ⟨rfl, hb1.alloc hb1.size _⟩

theorem edit_byte (b : Nat) (by_ : Int) : (((b : Int) + by_.tmod 256 + 256) % 256) = (((b : Int) + by_) % 256) ∧ -256 < by_.tmod 256 ∧ by_.tmod 256 < 256 := by
  have h := Int.mul_tdiv_add_tmod by_ 256
  have h1 := Int.tmod_lt_of_pos by_ (show (0 : Int) < 256 by decide)
  have h2 := Int.lt_tmod_of_pos by_ (show (0 : Int) < 256 by decide)
  refine ⟨?_, h2, h1⟩
  omega

set_option maxRecDepth 20000 in
set_option maxHeartbeats 4000000 in
theorem redit_good (s : ByteArray) (k : Nat) (by_ : Int) (w : World) (hz : s.size ≤ 9223372036854775807) (h0 : wrong s = 0) (h : k < (readS s).data.size) :
    Calls Try.prog 29 #[.string s, .int .i64 k, .int .i64 by_] w fun e w' => e = .returned (.tuple #[.string ({ readS s with data := editB (readS s).data k by_ } : Sg).bytes, .int .i64 0]) ∧ Below w.heap.size w w' := by
  have HP := Lib.hid (rparse_ok s hz h0)
  have hx := (read_ok s h0).1
  obtain ⟨x, ex⟩ : ∃ x, readS s = x := ⟨_, rfl⟩
  rw [ex] at HP hx h ⊢
  have HL := Lib.hid (rlay_ok _ (edit_ok hx h by_))
  obtain ⟨t, et⟩ : ∃ t, ({ x with data := editB x.data k by_ } : Sg).bytes = t := ⟨_, rfl⟩
  rw [et] at HL ⊢
  clear et ex h0 hz
  obtain ⟨src, dst, seq, ack, syn, ackOn, fin, rst, win, area, data⟩ := x
  have h7 := hx.h7
  clear hx
  simp only at h h7 HL
  obtain ⟨d', hd'⟩ : ∃ d', editB data k by_ = d' := ⟨_, rfl⟩
  rw [hd'] at HL
  have e1 : decide ((k : Int) < 0) = false := by simp
  have e2 : decide ((data.size : Int) ≤ (k : Int)) = false := by simp; omega
  obtain ⟨b0, g0⟩ : ∃ b, bn data.data.toList k = b := ⟨_, rfl⟩
  have a0 : ((data[k]'h).toNat : Int) = (b0 : Int) := by rw [bn_get data k h, g0]
  have hb0 : b0 < 256 := by have := (data[k]'h).toNat_lt; omega
  obtain ⟨m, hm⟩ : ∃ m, by_.tmod 256 = m := ⟨_, rfl⟩
  obtain ⟨hc0, hm1, hm2⟩ := edit_byte b0 by_
  rw [hm] at hc0 hm1 hm2
  obtain ⟨c, hc⟩ : ∃ c, ((b0 : Int) + m + 256) % 256 = c := ⟨_, rfl⟩
  have hc1 : 0 ≤ c := by omega
  have hc2 : c < 256 := by omega
  rw [hc] at hc0
  have HC0 := Lib.hid hc0
  clear hc0
  have i0 : (0 : Int) ≤ (k : Int) := by omega
  have i1 : (k : Int) ≤ (data.size : Int) := by omega
  have i2 : (k : Int) < (data.size : Int) := by omega
  have i4 : (k : Int) + 1 ≤ (data.size : Int) := by omega
  have i5 : (0 : Int) ≤ (k : Int) + 1 := by omega
  have i7 : IntKind.u8.wrap c = c := by rw [IntKind.wrap_u8]; omega
  have HD := Lib.hid hd'
  clear hd'
  go_enter Try.func29, Try.ntmps29
  go_wp2_with fail
  refine (HP.out _).mono ?_
  unfold Sg.v
  rintro e w1 ⟨rfl, hb1⟩
  have HB1 := Lib.hid hb1
  clear hb1
  go_upto_region 7 with fail
  rw [hc]
  obtain ⟨W5, hW5⟩ : ∃ W5, (w1.alloc (.cells #[.int .i64 0, .int .u16 src, .int .u16 dst, .int .u32 seq, .int .u32 ack, .bool syn, .bool ackOn, .bool fin, .bool rst, .int .u16 win, .string area, .string data] 29)) = W5 := ⟨_, rfl⟩
  rw [hW5]
  have hX5 : At W5 w1.heap.size 29 [.int .i64 0, .int .u16 src, .int .u16 dst, .int .u32 seq, .int .u32 ack, .bool syn, .bool ackOn, .bool fin, .bool rst, .int .u16 win, .string area, .string data] := by rw [← hW5]; exact At.of_new _ _ _
  have HB5 := Lib.hid (show Below w.heap.size w W5 by rw [← hW5]; exact HB1.out.alloc HB1.out.size _)
  have hw1 := HB1.out.size
  have hz5 : w1.heap.size < W5.heap.size := hX5.lt
  have HX := Lib.hid hX5
  have d11 := hX5.cell 11
  have f11 := hX5.frozen 11
  simp only [List.getElem?_cons_zero, List.getElem?_cons_succ] at d11
  clear hX5 hW5 HB1 hm1 hm2
  obtain ⟨v, hv⟩ : ∃ v : ByteArray, (⟨#[UInt8.ofNat c.toNat]⟩ : ByteArray) = v := ⟨_, rfl⟩
  have hcell : cellsOf [UInt8.ofNat c.toNat] = [.int .u8 c] := by
    unfold cellsOf
    rw [List.map_cons, List.map_nil, UInt8.toNat_ofNat', Nat.mod_eq_of_lt (by omega), Int.toNat_of_nonneg hc1]
  have hcv : (convert 24 9 (.slice (some ⟨W5.heap.size, 0, none⟩) 1 1)).run Try.prog (W5.alloc (.cells #[.int .u8 c] 5)).drew = .ok (.string v) (W5.alloc (.cells #[.int .u8 c] 5)).drew := by
    have hA := (At.of_new W5 5 #[.int .u8 c]).drew
    have := conv_str (P := Try.prog) 24 9 5 Try.underlying24 Try.underlying5 Try.underlying9 _ W5.heap.size 5 [UInt8.ofNat c.toNat] 0 1 1 (by rw [hcell]; exact hA) (by simp)
    rw [this, ← hv]; rfl
  have i3 : IntKind.i64.wrap ((k : Int) + 1) = (k : Int) + 1 := IntWalk.i64_in _ (by omega)
  have hvs : v.size = 1 := by rw [← hv]; rfl
  have HV := Lib.hid hv
  have HC := Lib.hid hc
  clear hv hc hcell
  have hRR : data.extract 0 k ++ v ++ data.extract (k + 1) data.size = d' := by
    rw [← HD.out, ← HV.out]
    apply ba_ext
    have e2 : cutL data.data.toList (k + 1) data.size = data.data.toList.drop (k + 1) := by unfold cutL; rw [List.take_of_length_le (by rw [bytes_len]; exact Nat.le_refl _)]
    have e3 : cutL data.data.toList 0 k = data.data.toList.take k := by rw [cutL]; rfl
    rw [ByteArray.data_append, Array.toList_append, ByteArray.data_append, Array.toList_append, cut_data, cut_data, e2, e3]
    unfold editB editL
    have hg : (data.data.toList.getD k 0).toNat = b0 := g0
    rw [hg, ← HC0.out]
  have HRR := Lib.hid hRR
  clear hRR
  go_region
  rw [HRR.out]
  have hA := ((HX.out.set_ 11 (.string d')).alloc (.cells #[.int .u8 c] 5)).drew
  have hB := ((HB5.out.setCell (p := ⟨w1.heap.size, 11, none⟩) hw1 (.string d')).alloc (HB5.out.setCell (p := ⟨w1.heap.size, 11, none⟩) hw1 (.string d')).size (.cells #[.int .u8 c] 5)).drew
  obtain ⟨W8, hW8⟩ : ∃ W8, ((W5.setCell ⟨w1.heap.size, 11, none⟩ (.string d')).alloc (.cells #[.int .u8 c] 5)).drew = W8 := ⟨_, rfl⟩
  rw [hW8] at hA hB ⊢
  have HB8 := Lib.hid hB
  simp only [List.set_cons_succ, List.set_cons_zero] at hA
  clear hW8 hB HX HB5 d11 f11 hcv a0 hm
  obtain ⟨fx, d0, d1, d2, d3, d4, d5, d6, d7, d8, d9, d10, d11⟩ := hA.cells12
  clear hA
  go_wp2_with fail
  refine (HL.out _).mono ?_
  rintro e w3 ⟨rfl, hb3⟩
  have HB9 := Lib.hid (HB8.out.trans (hb3.mono HB8.out.size))
  clear hb3 fx d0 d1 d2 d3 d4 d5 d6 d7 d8 d9 d10 d11
  go_wp2_with fail
  go_ret2
  exact ⟨rfl, HB9.out⟩

theorem redit_any (s : ByteArray) (at_ by_ : Int) (w : World) (hz : s.size ≤ 9223372036854775807) :
    Calls Try.prog 29 #[.string s, .int .i64 at_, .int .i64 by_] w fun e w' => e = .returned (.tuple #[.string (editR s at_ by_).1, .int .i64 (editR s at_ by_).2]) ∧ Below w.heap.size w w' := by
  unfold editR
  by_cases h : wrong s = 0
  · rw [if_neg (by simpa using h)]
    by_cases hb : at_ < 0 ∨ ((readS s).data.size : Int) ≤ at_
    · rw [if_pos hb]
      exact redit_bad s at_ by_ w hz h hb
    · rw [if_neg hb]
      obtain ⟨k, rfl⟩ : ∃ k : Nat, at_ = k := ⟨at_.toNat, by omega⟩
      exact redit_good s k by_ w hz h (by omega)
  · rw [if_pos h]
    exact redit_wrong s at_ by_ w hz h
end Go.Proofs.Ytdkkfhlijapbeaa
