/- works, walked. -/
import Derived.Test.YtbbkinldfpphdaaGreatDoorG1
import Derived.BigRegion
namespace Go.Proofs.YtbbkinldfpphdaaGreatDoor
open Go.RowKit Pl Go.Shelf
attribute [local go_sem ↓] Go.wp_at_zero Go.wp_at_succ

abbrev wXc : List Value := [.int .i64 0, .int .u16 0, .int .u16 0, .int .u32 10, .int .u32 0, .bool false, .bool false, .bool false, .bool false, .int .u16 0, .string ⟨#[30, 3, 81, 1]⟩, .string ⟨#[97, 98, 99, 100]⟩]
abbrev wBc : List Value := [.int .i64 0, .int .u16 0, .int .u16 0, .int .u32 10, .int .u32 0, .bool false, .bool false, .bool false, .bool false, .int .u16 0, .string ⟨#[]⟩, .string ⟨#[97, 98, 99, 100]⟩]
abbrev wEc : List Value := [.int .i64 0, .int .u16 0, .int .u16 0, .int .u32 10, .int .u32 0, .bool false, .bool false, .bool false, .bool false, .int .u16 0, .string ⟨#[30, 3, 81, 1]⟩, .string ⟨#[97, 98, 97, 100]⟩]
theorem bytes_le (x : Sg) (h : x.Ok) : x.bytes.size ≤ 9223372036854775807 := by rw [bytes_size x]; have := h.h5; have := h.h7; omega
set_option maxRecDepth 20000 in
set_option maxHeartbeats 4000000 in
theorem works_yes (w : World) : Calls Tryz.prog 4 #[] w fun e w' => e = .returned (.bool true) ∧ Below w.heap.size w w' := by
  have z0 := bytes_le wX wX_ok
  have z1 := bytes_le wOne wOne_ok
  have z2 := bytes_le wTwo wTwo_ok
  have LX : Hid (LayTo 8 wX wX.bytes 0) := lay_ok wX wX_ok
  have SX : Hid (∀ w, Calls Tryz.prog 9 #[.string wX.bytes] w fun e w' => e = .returned (.tuple #[.string wBare.bytes, .int .i64 0]) ∧ Below w.heap.size w w') := fun w => by
    have := strip_any wX.bytes w z0; rw [w_strip] at this; exact this
  have PX : Hid (∀ w, Calls Tryz.prog 12 #[.string wX.bytes, .int .i64 1] w fun e w' => e = .returned (.tuple #[.string wOne.bytes, .string wTwo.bytes, .int .i64 0]) ∧ Below w.heap.size w w') := fun w => by
    have := split_any wX.bytes 1 w z0; rw [w_split] at this; exact this
  have P4 : Hid (∀ w, Calls Tryz.prog 12 #[.string wX.bytes, .int .i64 4] w fun e w' => e = .returned (.tuple #[.string ⟨#[]⟩, .string ⟨#[]⟩, .int .i64 2]) ∧ Below w.heap.size w w') := fun w => by
    have := split_any wX.bytes 4 w z0; rw [w_split4] at this; exact this
  have MX : Hid (∀ w, Calls Tryz.prog 13 #[.string wOne.bytes, .string wTwo.bytes] w fun e w' => e = .returned (.tuple #[.string wX.bytes, .int .i64 0]) ∧ Below w.heap.size w w') := fun w => by
    have := merge_call wOne.bytes wTwo.bytes w z1 z2; rw [w_merge] at this; exact this
  have MT : Hid (∀ w, Calls Tryz.prog 13 #[.string wTwo.bytes, .string wOne.bytes] w fun e w' => e = .returned (.tuple #[.string ⟨#[]⟩, .int .i64 2]) ∧ Below w.heap.size w w') := fun w => by
    have := merge_call wTwo.bytes wOne.bytes w z2 z1; rw [w_turned] at this; exact this
  have EX : Hid (∀ w, Calls Tryz.prog 14 #[.string wX.bytes, .int .i64 2, .int .i64 (-2)] w fun e w' => e = .returned (.tuple #[.string wEd.bytes, .int .i64 0]) ∧ Below w.heap.size w w') := fun w => by
    have := edit_any wX.bytes 2 (-2) w z0; rw [w_edit] at this; exact this
  have E4 : Hid (∀ w, Calls Tryz.prog 14 #[.string wX.bytes, .int .i64 4, .int .i64 1] w fun e w' => e = .returned (.tuple #[.string ⟨#[]⟩, .int .i64 2]) ∧ Below w.heap.size w w') := fun w => by
    have := edit_any wX.bytes 4 1 w z0; rw [w_over] at this; exact this
  have S0 : Hid (∀ w, Calls Tryz.prog 9 #[.string ⟨#[]⟩] w fun e w' => e = .returned (.tuple #[.string ⟨#[]⟩, .int .i64 4]) ∧ Below w.heap.size w w') := fun w => by
    have := strip_any ⟨#[]⟩ w (by decide); rw [w_strip0] at this; exact this
  obtain ⟨s, hs⟩ : ∃ s, wX.bytes = s := ⟨_, rfl⟩
  obtain ⟨sb, hsb⟩ : ∃ s, wBare.bytes = s := ⟨_, rfl⟩
  obtain ⟨s1, hs1⟩ : ∃ s, wOne.bytes = s := ⟨_, rfl⟩
  obtain ⟨s2, hs2⟩ : ∃ s, wTwo.bytes = s := ⟨_, rfl⟩
  obtain ⟨s3, hs3⟩ : ∃ s, wEd.bytes = s := ⟨_, rfl⟩
  have IB : Hid (∀ w, Calls Tryz.prog 15 #[.string sb, wBare.v] w fun e w' => e = .returned (.bool true) ∧ Below w.heap.size w w') := fun w => by
    rw [← hsb]; exact is_yes _ wBare w (bytes_le _ wBare_ok) (read_bytes _ wBare_ok).2 (read_bytes _ wBare_ok).1
  have I1 : Hid (∀ w, Calls Tryz.prog 15 #[.string s1, wOne.v] w fun e w' => e = .returned (.bool true) ∧ Below w.heap.size w w') := fun w => by
    rw [← hs1]; exact is_yes _ wOne w (bytes_le _ wOne_ok) (read_bytes _ wOne_ok).2 (read_bytes _ wOne_ok).1
  have I2 : Hid (∀ w, Calls Tryz.prog 15 #[.string s2, wTwo.v] w fun e w' => e = .returned (.bool true) ∧ Below w.heap.size w w') := fun w => by
    rw [← hs2]; exact is_yes _ wTwo w (bytes_le _ wTwo_ok) (read_bytes _ wTwo_ok).2 (read_bytes _ wTwo_ok).1
  have I3 : Hid (∀ w, Calls Tryz.prog 15 #[.string s3, wEd.v] w fun e w' => e = .returned (.bool true) ∧ Below w.heap.size w w') := fun w => by
    rw [← hs3]; exact is_yes _ wEd w (bytes_le _ wEd_ok) (read_bytes _ wEd_ok).2 (read_bytes _ wEd_ok).1
  rw [hs] at LX SX PX P4 MX EX E4
  rw [hsb] at SX
  rw [hs1] at PX MX MT
  rw [hs2] at PX MX MT
  rw [hs3] at EX
  clear z0 z1 z2 hs hsb hs1 hs2 hs3
  go_enter Tryz.func4, Tryz.ntmps4
  go_wp2_with fail
  refine (LX.out _).mono ?_
  rintro e w1 ⟨rfl, hb1⟩
  have hX1 : At w1 w.heap.size 29 wXc := (At.of_new w _ _).kept hb1
  have B1 := Lib.hid (allocThen (Below.refl _ w) hb1)
  obtain ⟨f, d0, d1, d2, d3, d4, d5, d6, d7, d8, d9, d10, d11⟩ := hX1.cells12
  have HX1 := Lib.hid hX1
  have hl1 := hX1.lt
  clear hX1 hb1 LX
  go_wp2_with fail
  refine (SX.out _).mono ?_
  rintro e w2 ⟨rfl, hb2⟩
  have hX2 : At w2 w1.heap.size 29 wBc := (At.of_new w1 _ _).kept hb2
  have B2 := Lib.hid (allocThen B1.out hb2)
  have HX2 := Lib.hid hX2
  have hX12 := HX1.out.kept ((((Below.refl _ w1).alloc (Nat.le_refl _) _)).trans (hb2.mono (by simp)))
  have HX12 := Lib.hid hX12
  clear hX2 hb2 SX HX1 B1 f d0 d1 d2 d3 d4 d5 d6 d7 d8 d9 d10 d11 hX12 hl1
  go_wp2_with fail
  refine (PX.out _).mono ?_
  rintro e w3 ⟨rfl, hb3⟩
  have B3 := Lib.hid (B2.out.trans (hb3.mono B2.out.size))
  have HX13 := Lib.hid (HX12.out.kept hb3)
  have HX23 := Lib.hid (HX2.out.kept hb3)
  clear hb3 PX B2 HX12 HX2
  go_upto_region 7 with fail
  go_cut [10, 11] from 46 to 47 (fun p q w' => ∃ g h, p = .pointer (some ⟨g, 0, none⟩) ∧ q = .pointer (some ⟨h, 0, none⟩) ∧ g ≠ h ∧ w3.heap.size ≤ g ∧ w3.heap.size ≤ h ∧ Hid (At w' g 29 wXc) ∧ Hid (At w' h 29 wXc) ∧ Hid (Below w3.heap.size w3 w'))
  case first =>
    have hX := HX13.out
    obtain ⟨f, d0, d1, d2, d3, d4, d5, d6, d7, d8, d9, d10, d11⟩ := hX.cells12
    have hl1 := hX.lt
    clear hX
    go_region
    · go_wp2_with fail
      go_meet
      exact ⟨_, _, rfl, rfl, by omega, by omega, by omega, ((At.of_new _ _ _).alloc _).drew, (At.new1 (At.of_new _ _ _) (by simp)).drew, (((Below.refl _ w3).alloc (Nat.le_refl _) _).alloc (by simp) _).drew⟩
    · go_wp2_with fail
      go_meet
      exact ⟨_, _, rfl, rfl, by omega, by omega, by omega, (At.new1 (At.of_new _ _ _) (by simp)).drew, ((At.of_new _ _ _).alloc _).drew, (((Below.refl _ w3).alloc (Nat.le_refl _) _).alloc (by simp) _).drew⟩
  case rest =>
    obtain ⟨g, h, rfl, rfl, hgh, hg, hh, HG, HH, HB⟩ := hcut
    have HX14 := Lib.hid (HX13.out.kept HB.out)
    have HX24 := Lib.hid (HX23.out.kept HB.out)
    have B4 := Lib.hid (B3.out.trans (HB.out.mono B3.out.size))
    have fg := HG.out.cell 11
    have fh := HH.out.cell 11
    have fh3 := HH.out.cell 3
    have zg := HG.out.frozen 11
    have zh := HH.out.frozen 11
    have zh3 := HH.out.frozen 3
    have lg := HG.out.lt
    have lh := HH.out.lt
    have hhg : h ≠ g := fun e => hgh e.symm
    simp only [List.getElem?_cons_zero, List.getElem?_cons_succ] at fg fh fh3
    have lx : w.heap.size < w3.heap.size := HX13.out.lt
    have ly : w1.heap.size < w3.heap.size := HX23.out.lt
    clear HX13 HX23 HB B3
    go_wp2_with fail
    refine (MX.out _).mono ?_
    rintro e w5 ⟨rfl, hb5⟩
    have hG5 : At w5 g 29 wOne.cs := (((HG.out.set_ 11 (.string ⟨#[97]⟩)).far (p := ⟨h, 11, none⟩) hgh (.string ⟨#[98, 99, 100]⟩)).far (p := ⟨h, 3, none⟩) hgh (.int .u32 11)).kept hb5
    have hH5 : At w5 h 29 wTwo.cs := (((HH.out.far (p := ⟨g, 11, none⟩) hhg (.string ⟨#[97]⟩)).set_ 11 (.string ⟨#[98, 99, 100]⟩)).set_ 3 (.int .u32 11)).kept hb5
    have hX15 : At w5 w.heap.size 29 wXc := (((HX14.out.far (p := ⟨g, 11, none⟩) (by simp; omega) (.string ⟨#[97]⟩)).far (p := ⟨h, 11, none⟩) (by simp; omega) (.string ⟨#[98, 99, 100]⟩)).far (p := ⟨h, 3, none⟩) (by simp; omega) (.int .u32 11)).kept hb5
    have hX25 : At w5 w1.heap.size 29 wBc := (((HX24.out.far (p := ⟨g, 11, none⟩) (by simp; omega) (.string ⟨#[97]⟩)).far (p := ⟨h, 11, none⟩) (by simp; omega) (.string ⟨#[98, 99, 100]⟩)).far (p := ⟨h, 3, none⟩) (by simp; omega) (.int .u32 11)).kept hb5
    have hw : w.heap.size ≤ g := by omega
    have hw2 : w.heap.size ≤ h := by omega
    have b5 := ((B4.out.setCell (p := ⟨g, 11, none⟩) hw (.string ⟨#[97]⟩)).setCell (p := ⟨h, 11, none⟩) hw2 (.string ⟨#[98, 99, 100]⟩)).setCell (p := ⟨h, 3, none⟩) hw2 (.int .u32 11)
    have B5 := Lib.hid (b5.trans (hb5.mono b5.size))
    have HG5 := Lib.hid hG5
    have HH5 := Lib.hid hH5
    have HX15 := Lib.hid hX15
    have HX25 := Lib.hid hX25
    clear hG5 hH5 hX15 hX25 b5 hb5 B4 fg fh fh3 zg zh zh3 HG HH HX14 HX24 MX lg lh hg hh hw hw2 lx ly
    go_wp2_with fail
    refine (MT.out _).mono ?_
    rintro e w6 ⟨rfl, hb6⟩
    have hX16 := HX15.out.kept hb6
    obtain ⟨f, d0, d1, d2, d3, d4, d5, d6, d7, d8, d9, d10, d11⟩ := hX16.cells12
    have l6 := hX16.lt
    have HG6 := Lib.hid (HG5.out.kept hb6)
    have HH6 := Lib.hid (HH5.out.kept hb6)
    have HX26 := Lib.hid (HX25.out.kept hb6)
    have B6 := Lib.hid (B5.out.trans (hb6.mono B5.out.size))
    clear hX16 hb6 HG5 HH5 HX15 HX25 B5 MT
    go_wp2_with fail
    refine (EX.out _).mono ?_
    rintro e w7 ⟨rfl, hb7⟩
    have HE7 := Lib.hid (show At w7 w6.heap.size 29 wEd.cs from (At.of_new w6 _ _).kept hb7)
    have up : Below w6.heap.size w6 w7 := allocThen (Below.refl _ w6) hb7
    have HG7 := Lib.hid (HG6.out.kept up)
    have HH7 := Lib.hid (HH6.out.kept up)
    have HX27 := Lib.hid (HX26.out.kept up)
    have B7 := Lib.hid (B6.out.trans (up.mono B6.out.size))
    clear hb7 up HG6 HH6 HX26 B6 EX f d0 d1 d2 d3 d4 d5 d6 d7 d8 d9 d10 d11 l6
    go_wp2_with fail
    refine (E4.out _).mono ?_
    rintro e w8 ⟨rfl, hb8⟩
    have HE8 := Lib.hid (HE7.out.kept hb8)
    have HG8 := Lib.hid (HG7.out.kept hb8)
    have HH8 := Lib.hid (HH7.out.kept hb8)
    have HX28 := Lib.hid (HX27.out.kept hb8)
    have B8 := Lib.hid (B7.out.trans (hb8.mono B7.out.size))
    clear hb8 HE7 HG7 HH7 HX27 B7 E4
    go_wp2_with fail
    refine (S0.out _).mono ?_
    rintro e w9 ⟨rfl, hb9⟩
    have HE9 := Lib.hid (HE8.out.kept hb9)
    have HG9 := Lib.hid (HG8.out.kept hb9)
    have HH9 := Lib.hid (HH8.out.kept hb9)
    have HX29 := Lib.hid (HX28.out.kept hb9)
    have B9 := Lib.hid (B8.out.trans (hb9.mono B8.out.size))
    clear hb9 HE8 HG8 HH8 HX28 B8 S0
    go_wp2_with fail
    refine (P4.out _).mono ?_
    rintro e wa ⟨rfl, hba⟩
    have HEa := Lib.hid (HE9.out.kept hba)
    have HGa := Lib.hid (HG9.out.kept hba)
    have HHa := Lib.hid (HH9.out.kept hba)
    have hX2a := HX29.out.kept hba
    have Ba := Lib.hid (B9.out.trans (hba.mono B9.out.size))
    clear hba HE9 HG9 HH9 HX29 B9 P4
    obtain ⟨f, d0, d1, d2, d3, d4, d5, d6, d7, d8, d9, d10, d11⟩ := hX2a.cells12
    clear hX2a
    go_wp2_with fail
    refine (IB.out _).mono ?_
    rintro e wb ⟨rfl, hbb⟩
    have hGb := HGa.out.kept hbb
    have HEb := Lib.hid (HEa.out.kept hbb)
    have HHb := Lib.hid (HHa.out.kept hbb)
    have Bb := Lib.hid (Ba.out.trans (hbb.mono Ba.out.size))
    clear hbb HEa HGa HHa Ba IB f d0 d1 d2 d3 d4 d5 d6 d7 d8 d9 d10 d11
    obtain ⟨f, d0, d1, d2, d3, d4, d5, d6, d7, d8, d9, d10, d11⟩ := (show At wb g 29 [.int .i64 0, .int .u16 0, .int .u16 0, .int .u32 10, .int .u32 0, .bool false, .bool false, .bool false, .bool false, .int .u16 0, .string ⟨#[30, 3, 81, 1]⟩, .string ⟨#[97]⟩] from hGb).cells12
    clear hGb
    go_wp2_with fail
    refine (I1.out _).mono ?_
    rintro e wc2 ⟨rfl, hbc⟩
    have hHc := HHb.out.kept hbc
    have HEc := Lib.hid (HEb.out.kept hbc)
    have Bc := Lib.hid (Bb.out.trans (hbc.mono Bb.out.size))
    clear hbc HEb HHb Bb I1 f d0 d1 d2 d3 d4 d5 d6 d7 d8 d9 d10 d11
    obtain ⟨f, d0, d1, d2, d3, d4, d5, d6, d7, d8, d9, d10, d11⟩ := (show At wc2 h 29 [.int .i64 0, .int .u16 0, .int .u16 0, .int .u32 11, .int .u32 0, .bool false, .bool false, .bool false, .bool false, .int .u16 0, .string ⟨#[30, 3, 81, 1]⟩, .string ⟨#[98, 99, 100]⟩] from hHc).cells12
    clear hHc
    go_wp2_with fail
    refine (I2.out _).mono ?_
    rintro e wd ⟨rfl, hbd⟩
    have hEd := HEc.out.kept hbd
    have Bd := Lib.hid (Bc.out.trans (hbd.mono Bc.out.size))
    clear hbd HEc Bc I2 f d0 d1 d2 d3 d4 d5 d6 d7 d8 d9 d10 d11
    obtain ⟨f, d0, d1, d2, d3, d4, d5, d6, d7, d8, d9, d10, d11⟩ := (show At wd w6.heap.size 29 wEc from hEd).cells12
    clear hEd
    go_wp2_with fail
    refine (I3.out _).mono ?_
    rintro e we ⟨rfl, hbe⟩
    have Be := Lib.hid (Bd.out.trans (hbe.mono Bd.out.size))
    clear hbe Bd I3 f d0 d1 d2 d3 d4 d5 d6 d7 d8 d9 d10 d11
    go_wp2_with fail
    go_ret
    exact ⟨rfl, Be.out⟩
end Go.Proofs.YtbbkinldfpphdaaGreatDoor
