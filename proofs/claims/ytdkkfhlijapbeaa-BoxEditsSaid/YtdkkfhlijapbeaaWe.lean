/- BoxEdits, walked. -/
import Derived.Test.YtdkkfhlijapbeaaG2
import Derived.Test.YtdkkfhlijapbeaaDo
import Derived.Test.YtdkkfhlijapbeaaMe
namespace Go.Proofs.Ytdkkfhlijapbeaa
open Go.RowKit Pl Go.Shelf
attribute [local go_sem ↓] Go.wp_at_zero Go.wp_at_succ

set_option maxRecDepth 20000 in
set_option maxHeartbeats 8000000 in
theorem boxEdits_any (d : Dr) (at_ : Nat) (by_ : Int) (w : World) (hd : d.Ok w) (_hat : at_ < 256) (hb1 : -32768 ≤ by_) (hb2 : by_ ≤ 32767) :
    Calls Try.prog 6 #[d.v, .int .u8 at_, .int .i16 by_] w fun e w' => e = .returned (.bool true) ∧ Below w.heap.size w w' := by
  have hDR : ∀ w', Below w.heap.size w w' → Calls Try.prog 9 #[d.v] w' fun e w'' => e = .returned (drSeg d).v ∧ Below w'.heap.size w' w'' := fun w' hb => draft_any d w' (hd.kept hb)
  obtain ⟨hxo, hx100⟩ := drSeg_ok d hd
  obtain ⟨kb, kn, kc, hkv⟩ := hd.form
  obtain ⟨x, ex⟩ : ∃ x, drSeg d = x := ⟨_, rfl⟩
  rw [ex] at hDR hxo hx100
  have HDR := Lib.hid hDR
  clear hDR ex
  obtain ⟨src, dst, seq, ack, syn, ackOn, fin, rst, win, area, data0⟩ := x
  obtain ⟨data, edata⟩ : ∃ b : ByteArray, data0 ++ ⟨#[97]⟩ = b := ⟨_, rfl⟩
  have hds : data.size = data0.size + 1 := by rw [← edata, ByteArray.size_append]; rfl
  simp only at hx100
  have hXo : (⟨src, dst, seq, ack, syn, ackOn, fin, rst, win, area, data⟩ : Sg).Ok := ⟨hxo.h0, hxo.h1, hxo.h2, hxo.h3, hxo.h4, hxo.h5, hxo.h6, by show data.size ≤ 1024; omega⟩
  obtain ⟨k, ek⟩ : ∃ k, at_ % data.size = k := ⟨_, rfl⟩
  have hk : k < data.size := by rw [← ek]; exact Nat.mod_lt _ (by omega)
  have hYo := edit_ok hXo (k := k) hk by_
  have z1 := bytes_size (⟨src, dst, seq, ack, syn, ackOn, fin, rst, win, area, data⟩ : Sg)
  have z2 := bytes_size ({ (⟨src, dst, seq, ack, syn, ackOn, fin, rst, win, area, data⟩ : Sg) with data := editB data k by_ } : Sg)
  have hq1 := edit_bytes_R _ hXo k hk by_
  have hq2 := edit_bytes_R _ hYo k (by show k < (editB data k by_).size; rw [editB_size _ _ _ hk]; exact hk) (-by_)
  have hq3 := edit_bytes_R _ hXo k hk (256 * by_)
  have hsame := edit_same _ hXo k hk by_
  have hpar := read_bytes _ hYo
  simp only at hq1 hq2 hq3 hpar hsame
  rw [editB_back _ _ _ hk] at hq2
  rw [editB_zero _ _ _ hk (show (256 * by_) % 256 = 0 by omega)] at hq3
  have hfront := editB_front data k by_ hk
  have hrest := editB_rest data k by_ hk
  have hbyte := editB_byte data k by_ hk
  have hsz := editB_size data k by_ hk
  obtain ⟨d', ed'⟩ : ∃ d', editB data k by_ = d' := ⟨_, rfl⟩
  rw [ed'] at hq1 hq2 hpar hfront hrest hbyte hsz hsame z2 hYo
  obtain ⟨s, es⟩ : ∃ s, (⟨src, dst, seq, ack, syn, ackOn, fin, rst, win, area, data⟩ : Sg).bytes = s := ⟨_, rfl⟩
  obtain ⟨t, et⟩ : ∃ t, (⟨src, dst, seq, ack, syn, ackOn, fin, rst, win, area, d'⟩ : Sg).bytes = t := ⟨_, rfl⟩
  have LX := Lib.hid (lay_ok _ hXo)
  rw [es] at hq1 hq2 hq3 hsame z1 LX
  rw [et] at hq1 hq2 hsame z2 hpar
  have h5 := hXo.h5
  simp only at z1 z2 h5
  have hzs : s.size ≤ 9223372036854775807 := by omega
  have hzt : t.size ≤ 9223372036854775807 := by omega
  have E1 : Hid (∀ w, Calls Try.prog 17 #[.string s, .int .i64 k, .int .i64 by_] w fun e w' => e = .returned (.tuple #[.string t, .int .i64 0]) ∧ Below w.heap.size w w') := fun w => by
    have := edit_any s k by_ w hzs; rw [hq1] at this; exact this
  have E2 : Hid (∀ w, Calls Try.prog 17 #[.string t, .int .i64 k, .int .i64 (-by_)] w fun e w' => e = .returned (.tuple #[.string s, .int .i64 0]) ∧ Below w.heap.size w w') := fun w => by
    have := edit_any t k (-by_) w hzt; rw [hq2] at this; exact this
  have E3 : Hid (∀ w, Calls Try.prog 17 #[.string s, .int .i64 k, .int .i64 (256 * by_)] w fun e w' => e = .returned (.tuple #[.string s, .int .i64 0]) ∧ Below w.heap.size w w') := fun w => by
    have := edit_any s k (256 * by_) w hzs; rw [hq3] at this; exact this
  have PX : Hid (ParseTo 15 t ⟨src, dst, seq, ack, syn, ackOn, fin, rst, win, area, d'⟩ 0) := by
    have := parse_ok t hzt hpar.2; rw [hpar.1] at this; exact this
  have HW := Lib.hid works_yes
  have HE := Lib.hid edata
  have HK := Lib.hid ek
  have hmod : (at_ : Int) % (data.size : Int) = (k : Int) := by rw [← ek]; rfl
  have hmodt : (at_ : Int).tmod (data.size : Int) = (k : Int) := by rw [Int.tmod_eq_emod_of_nonneg (by omega)]; exact hmod
  have hnz : ¬ (data.size : Int) = 0 := by omega
  have HSAME := Lib.hid hsame
  have HF := Lib.hid hfront
  have HRS := Lib.hid hrest
  have HBY := Lib.hid hbyte
  have HSZ := Lib.hid hsz
  have hd100 : data.size ≤ 101 := by omega
  have hd0 : data0.size ≤ 100 := hx100
  have hcat : ¬ 9223372036854775807 < data0.size + 1 := by omega
  have hk2 : k < data.size := hk
  clear edata ek hq1 hq2 hq3 hpar hfront hrest hbyte hsz hsame hXo hYo hxo es et z1 z2 ed' hds hzs hzt h5 hd hk hx100
  unfold Dr.v at HDR ⊢
  rw [hkv] at HDR ⊢
  clear hkv
  go_enter Try.func6, Try.ntmps6
  go_wp2_with fail
  refine (HW.out _).mono ?_
  rintro e w1 ⟨rfl, hb⟩
  have B1 := Lib.hid (allocThen (Below.refl _ w) hb)
  have hD1 : At w1 w.heap.size 26 [.int .u16 d.src, .int .u16 d.dst, .int .u16 d.win, .int .u32 d.seq, .int .u32 d.ack, .int .u8 d.flags, .slice kb kn kc, .string d.body, .string d.data] := (At.of_new w _ _).kept hb
  obtain ⟨d0, d1, d2, d3, d4, d5, d6, d7, d8⟩ := hD1.cells9
  clear hb hD1
  go_wp2_with fail
  refine (HDR.out _ B1.out).mono ?_
  unfold Sg.v
  rintro e w2 ⟨rfl, hb⟩
  have B2 := Lib.hid (B1.out.trans (hb.mono B1.out.size))
  clear hb d0 d1 d2 d3 d4 d5 d6 d7 d8 B1 HDR
  obtain ⟨W2, hW2⟩ : ∃ W2, (w2.alloc (.cells #[.int .i64 0, .int .u16 src, .int .u16 dst, .int .u32 seq, .int .u32 ack, .bool syn, .bool ackOn, .bool fin, .bool rst, .int .u16 win, .string area, .string data0] 29)).setCell ⟨w2.heap.size, 11, none⟩ (.string data) = W2 := ⟨_, rfl⟩
  have hX2 : At W2 w2.heap.size 29 [.int .i64 0, .int .u16 src, .int .u16 dst, .int .u32 seq, .int .u32 ack, .bool syn, .bool ackOn, .bool fin, .bool rst, .int .u16 win, .string area, .string data] := by rw [← hW2]; exact (At.of_new _ _ _).set_ 11 _
  have B3 := Lib.hid (show Below w.heap.size w W2 by rw [← hW2]; exact (B2.out.alloc B2.out.size _).setCell (p := ⟨w2.heap.size, 11, none⟩) B2.out.size _)
  have hjoin := HE.out
  have HX2 := Lib.hid hX2
  obtain ⟨fx, x0, x1, x2, x3, x4, x5, x6, x7, x8, x9, x10, x11⟩ := hX2.cells12
  clear B2 hX2
  go_wp2_with fail
  refine (LX.out _).mono ?_
  rintro e w3 ⟨rfl, hb⟩
  have HX3 := Lib.hid (HX2.out.kept hb)
  have B4 := Lib.hid (B3.out.trans (hb.mono B3.out.size))
  clear hb fx x0 x1 x2 x3 x4 x5 x6 x7 x8 x9 x10 x11 HX2 B3 hW2 LX hjoin hcat
  have hX3 := HX3.out
  obtain ⟨fx, x0, x1, x2, x3, x4, x5, x6, x7, x8, x9, x10, x11⟩ := hX3.cells12
  clear hX3
  go_wp2_with fail
  refine (E1.out _).mono ?_
  rintro e w4 ⟨rfl, hb⟩
  have B5 := Lib.hid (B4.out.trans (hb.mono B4.out.size))
  have HX4 := Lib.hid (HX3.out.kept hb)
  clear hb B4 E1 HX3 fx x0 x1 x2 x3 x4 x5 x6 x7 x8 x9 x10 x11 HW HE HK hmod hmodt hnz
  go_wp2_with fail
  refine (PX.out _).mono ?_
  unfold Sg.v
  rintro e w5 ⟨rfl, hb⟩
  have HX5 := Lib.hid (HX4.out.kept (hb.trans (((Below.refl _ w5).alloc (Nat.le_refl _) (.cells #[.int .i64 0, .int .u16 src, .int .u16 dst, .int .u32 seq, .int .u32 ack, .bool syn, .bool ackOn, .bool fin, .bool rst, .int .u16 win, .string area, .string d'] 29)).mono hb.size)))
  have HY5 := Lib.hid (At.of_new w5 29 #[.int .i64 0, .int .u16 src, .int .u16 dst, .int .u32 seq, .int .u32 ack, .bool syn, .bool ackOn, .bool fin, .bool rst, .int .u16 win, .string area, .string d'])
  have B6 := Lib.hid ((B5.out.trans (hb.mono B5.out.size)).alloc (B5.out.trans (hb.mono B5.out.size)).size (.cells #[.int .i64 0, .int .u16 src, .int .u16 dst, .int .u32 seq, .int .u32 ack, .bool syn, .bool ackOn, .bool fin, .bool rst, .int .u16 win, .string area, .string d'] 29))
  have hl25 : w2.heap.size < w5.heap.size := Nat.lt_of_lt_of_le HX4.out.lt hb.size
  have hl05 : w.heap.size ≤ w5.heap.size := (B5.out.trans (hb.mono B5.out.size)).size
  clear hb B5 PX HX4
  go_wp2_with fail
  refine (E2.out _).mono ?_
  rintro e w6 ⟨rfl, hb⟩
  have B7 := Lib.hid (B6.out.trans (hb.mono B6.out.size))
  have HX6 := Lib.hid (HX5.out.kept hb)
  have HY6 := Lib.hid (HY5.out.kept hb)
  clear hb B6 E2 HX5 HY5
  go_wp2_with fail
  refine (E3.out _).mono ?_
  rintro e w7 ⟨rfl, hb⟩
  have B8 := Lib.hid (B7.out.trans (hb.mono B7.out.size))
  have HX7 := Lib.hid (HX6.out.kept hb)
  have HY7 := Lib.hid (HY6.out.kept hb)
  clear hb B7 E3 HX6 HY6
  obtain ⟨bz, hbz⟩ : ∃ bz : Bool, (by_.tmod 256 == 0) = bz := ⟨_, rfl⟩
  have hbs : (t.toList == s.toList) = bz := by
    rw [← hbz, Bool.eq_iff_iff, beq_iff_eq, beq_iff_eq, ByteArray.toList_eq, ByteArray.toList_eq]
    have h1 : t.data.toList = s.data.toList ↔ t = s := ⟨fun h => ba_ext h, fun h => by rw [h]⟩
    rw [h1, HSAME.out]
    have := Int.mul_tdiv_add_tmod by_ 256
    have h2 := Int.tmod_lt_of_pos by_ (show (0 : Int) < 256 by decide)
    have h3 := Int.lt_tmod_of_pos by_ (show (0 : Int) < 256 by decide)
    omega
  have HBZ := Lib.hid HSAME.out
  obtain ⟨b, gb⟩ : ∃ b, bn data.data.toList k = b := ⟨_, rfl⟩
  obtain ⟨b', gb'⟩ : ∃ b, bn d'.data.toList k = b := ⟨_, rfl⟩
  have hsz := HSZ.out
  have hk' : k < d'.size := by rw [hsz]; exact hk2
  have a1 : ((data[k]'hk2).toNat : Int) = (b : Int) := by rw [bn_get data k hk2, gb]
  have a2 : ((d'[k]'hk').toNat : Int) = (b' : Int) := by rw [bn_get d' k hk', gb']
  have hb256 : b < 256 := by rw [← gb]; unfold bn; exact UInt8.toNat_lt _
  have hby := HBY.out
  rw [gb, gb'] at hby
  obtain ⟨m, em⟩ : ∃ m : Int, by_ % 256 = m := ⟨_, rfl⟩
  have wm : IntKind.u8.wrap by_ = m := by rw [IntKind.wrap_u8, em]
  have wb : IntKind.u8.wrap ((b : Int) + m) = (b' : Int) := by rw [IntKind.wrap_u8]; omega
  have wb2 : ((b : Int) + m) % 256 = (b' : Int) := by omega
  have HBYH := Lib.hid (And.intro hby em)
  obtain ⟨p0, ep0⟩ : ∃ p0, data.extract 0 k = p0 := ⟨_, rfl⟩
  have ep1 : d'.extract 0 k = p0 := by rw [HF.out, ep0]
  obtain ⟨q0, eq0⟩ : ∃ q0, data.extract (k + 1) data.size = q0 := ⟨_, rfl⟩
  have eq1 : d'.extract (k + 1) data.size = q0 := by rw [HRS.out, eq0]
  have i0 : (0 : Int) ≤ (k : Int) := by omega
  have i1 : (k : Int) ≤ (data.size : Int) := by omega
  have i2 : (k : Int) < (data.size : Int) := by omega
  have i3 : IntKind.i64.wrap ((k : Int) + 1) = (k : Int) + 1 := IntWalk.i64_in _ (by omega)
  have i4 : (k : Int) + 1 ≤ (data.size : Int) := by omega
  have i5 : (0 : Int) ≤ (k : Int) + 1 := by omega
  have hX7 := HX7.out
  have hY7 := HY7.out
  obtain ⟨fx, x0, x1, x2, x3, x4, x5, x6, x7, x8, x9, x10, x11⟩ := hX7.cells12
  obtain ⟨fy, y0, y1, y2, y3, y4, y5, y6, y7, y8, y9, y10, y11⟩ := hY7.cells12
  clear hby em gb gb' hX7 hY7 HF HRS HBY HSZ HSAME
  go_upto_region 13 with fail
  go_quiet (fail)
  clear a1 a2 hbs hbz wm wb wb2 ep0 ep1 eq0 eq1 hsz
  have hne : w2.heap.size ≠ w5.heap.size := by omega
  go_wp2_with fail
  go_ret
  exact ⟨rfl, (below_dn B8.out nq).setCell (p := ⟨w5.heap.size, 11, none⟩) hl05 _⟩
end Go.Proofs.Ytdkkfhlijapbeaa
