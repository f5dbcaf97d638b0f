/- BoxOdd, walked. -/
import Derived.Test.YtdkkfhlijapbeaaWt
import Derived.Test.YtdkkfhlijapbeaaBy
import Derived.Test.YtdkkfhlijapbeaaB4
namespace Go.Proofs.Ytdkkfhlijapbeaa
open Go.RowKit Pl Go.Shelf
attribute [local go_sem ↓] Go.wp_at_zero Go.wp_at_succ

theorem xor_any (x b : Nat) (hx : x < 256) (hb : b < 256) : ∃ z : Nat, bits .xor .u8 (x : Int) (b : Int) = (z : Int) ∧ z < 256 :=
  ⟨x ^^^ b, u8_xor_nat x b hx hb, Nat.xor_lt_two_pow (n := 8) hx hb⟩

set_option maxRecDepth 100000 in
set_option maxHeartbeats 8000000 in
theorem boxOdd_any (s0 : ByteArray) (d : Dr) (n0 n1 : Nat) (at_ : Int) (w : World) (hd : d.Ok w) (hs0 : s0.size ≤ 9223372036854775807) (hn0 : n0 < 256) (hn1 : n1 < 256) :
    Calls Try.prog 4 #[.string s0, d.v, .agg #[.int .u8 n0, .int .u8 n1], .int .i64 at_] w fun e w' => e = .returned (.bool true) ∧ Below w.heap.size w w' := by
  have hDR : ∀ w', Below w.heap.size w w' → Calls Try.prog 9 #[d.v] w' fun e w'' => e = .returned (drSeg d).v ∧ Below w'.heap.size w' w'' := fun w' hb => draft_any d w' (hd.kept hb)
  have hLD : ∀ w', Below w.heap.size w w' → Calls Try.prog 8 #[d.v] w' fun e w'' => e = .returned (.string (drSeg d).bytes) ∧ Below w'.heap.size w' w'' := fun w' hb => laid_draft d w' (hd.kept hb)
  obtain ⟨hxo, hx100⟩ := drSeg_ok d hd
  obtain ⟨kb, kn, kc, hkv⟩ := hd.form
  obtain ⟨x, ex⟩ : ∃ x, drSeg d = x := ⟨_, rfl⟩
  rw [ex] at hDR hLD hxo hx100
  have hos := bytes_size x
  obtain ⟨own, eo⟩ : ∃ s, x.bytes = s := ⟨_, rfl⟩
  rw [eo] at hLD hos
  have HDR := Lib.hid hDR
  have HLD := Lib.hid hLD
  clear hDR hLD ex eo
  obtain ⟨src, dst, seq, ack, syn, ackOn, fin, rst, win, area, data⟩ := x
  have h5 := hxo.h5
  simp only at hx100 hos h5
  have hLAY : ∀ a : ByteArray, a.size = area.size → ∃ t : ByteArray, t.size ≤ 9223372036854775807 ∧ LayTo 10 ⟨src, dst, seq, ack, syn, ackOn, fin, rst, win, a, data⟩ t 0 := fun a ha => by
    have hao : (⟨src, dst, seq, ack, syn, ackOn, fin, rst, win, a, data⟩ : Sg).Ok := ⟨hxo.h0, hxo.h1, hxo.h2, hxo.h3, hxo.h4, by show a.size ≤ 40; omega, by show a.size % 4 = 0; rw [ha]; exact hxo.h6, hxo.h7⟩
    exact ⟨_, ok_size _ hao, rlay_ok _ hao⟩
  have HLAY := Lib.hid hLAY
  clear hLAY hxo
  have HSAME : Hid (∀ (s t : ByteArray) (a b : Int) (w : World), s.size ≤ 9223372036854775807 → t.size ≤ 9223372036854775807 → Calls Try.prog 11 #[.string s, .string t, .int .i64 a, .int .i64 b] w fun e w' => e = .returned (.bool true) ∧ Below w.heap.size w w') := fun s t a b w h1 h2 => same_any s t a b w h1 h2
  have HW := Lib.hid works_yes
  obtain ⟨m, em⟩ : ∃ m, min s0.size 150 = m := ⟨_, rfl⟩
  have hml : m ≤ s0.size := by omega
  have hmm : (if (150 : Int) < (s0.size : Int) then (150 : Int) else (s0.size : Int)) = (m : Int) := by split <;> omega
  have i0 : (0 : Int) ≤ (m : Int) := by omega
  have i1 : (m : Int) ≤ (s0.size : Int) := by omega
  obtain ⟨s, es⟩ : ∃ s, s0.extract 0 m = s := ⟨_, rfl⟩
  have hss : s.size ≤ 9223372036854775807 := by rw [← es, ByteArray.size_extract]; omega
  have hos1 : own.size ≤ 9223372036854775807 := by omega
  have hos20 : 20 ≤ own.size := by omega
  have hos2 : own.size ≤ 1000 := by omega
  obtain ⟨q, eq⟩ : ∃ q, n0 % own.size = q := ⟨_, rfl⟩
  have hq : q < own.size := by rw [← eq]; exact Nat.mod_lt _ (by omega)
  have c0 : IntKind.i64.wrap (n0 : Int) = (n0 : Int) := IntWalk.i64_in _ (by omega)
  have qt : (n0 : Int).tmod (own.size : Int) = (q : Int) := by rw [Int.tmod_eq_emod_of_nonneg (by omega), ← eq]; rfl
  have qe : (n0 : Int) % (own.size : Int) = (q : Int) := by rw [← eq]; rfl
  have hnzo : ¬ (own.size : Int) = 0 := by omega
  have hoe : ¬ own.toList = [] := by
    rw [ByteArray.toList_eq]; intro h
    have : own.data.toList.length = 0 := by rw [h]; rfl
    rw [bytes_len] at this; omega
  have hoe2 : own.toList.isEmpty = false := by cases h : own.toList with | nil => exact absurd h hoe | cons _ _ => rfl
  have hql : q < own.data.toList.length := by rw [bytes_len]; exact hq
  obtain ⟨xb, gxb⟩ : ∃ b, (own.data.toList.getD q 0).toNat = b := ⟨_, rfl⟩
  have hxb : xb < 256 := by rw [← gxb]; exact UInt8.toNat_lt _
  obtain ⟨z, hz1, hz2⟩ := xor_any xb n1 hxb hn1
  have HGX := Lib.hid gxb
  have HEQ := Lib.hid eq
  clear gxb eq em hos
  unfold Dr.v at HDR HLD ⊢
  rw [hkv] at HDR HLD ⊢
  clear hkv
  go_enter Try.func4, Try.ntmps4
  obtain ⟨W0, hW0⟩ : ∃ W0, (w.alloc (.cells #[.int .u16 d.src, .int .u16 d.dst, .int .u16 d.win, .int .u32 d.seq, .int .u32 d.ack, .int .u8 d.flags, .slice kb kn kc, .string d.body, .string d.data] 26)).alloc (.cells #[.int .u8 n0, .int .u8 n1] 38) = W0 := ⟨_, rfl⟩
  have hD0 : At W0 w.heap.size 26 [.int .u16 d.src, .int .u16 d.dst, .int .u16 d.win, .int .u32 d.seq, .int .u32 d.ack, .int .u8 d.flags, .slice kb kn kc, .string d.body, .string d.data] := by rw [← hW0]; exact (At.of_new _ _ _).alloc _
  have hN0 : At W0 (w.heap.size + 1) 38 [.int .u8 n0, .int .u8 n1] := by rw [← hW0]; exact At.new1 (At.of_new _ _ _) (by simp)
  have B0 := Lib.hid (show Below w.heap.size w W0 by rw [← hW0]; exact ((Below.refl _ _).alloc (Nat.le_refl _) _).alloc (by simp) _)
  have HD0 := Lib.hid hD0
  have HN0 := Lib.hid hN0
  obtain ⟨d0, d1, d2, d3, d4, d5, d6, d7, d8⟩ := hD0.cells9
  clear hD0 hN0
  go_wp2_with fail
  refine (HDR.out _ B0.out).mono ?_
  unfold Sg.v
  rintro e w1 ⟨rfl, hb⟩
  have hbx := hb.trans (((Below.refl _ w1).alloc (Nat.le_refl _) (.cells #[.int .i64 0, .int .u16 src, .int .u16 dst, .int .u32 seq, .int .u32 ack, .bool syn, .bool ackOn, .bool fin, .bool rst, .int .u16 win, .string area, .string data] 29)).mono hb.size)
  have B1 := Lib.hid (B0.out.trans (hbx.mono B0.out.size))
  have HD1 := Lib.hid (HD0.out.kept hbx)
  have HN1 := Lib.hid (HN0.out.kept hbx)
  have HX1 := Lib.hid (At.of_new w1 29 #[.int .i64 0, .int .u16 src, .int .u16 dst, .int .u32 seq, .int .u32 ack, .bool syn, .bool ackOn, .bool fin, .bool rst, .int .u16 win, .string area, .string data])
  obtain ⟨W1, hW1⟩ : ∃ W1, w1.alloc (.cells #[.int .i64 0, .int .u16 src, .int .u16 dst, .int .u32 seq, .int .u32 ack, .bool syn, .bool ackOn, .bool fin, .bool rst, .int .u16 win, .string area, .string data] 29) = W1 := ⟨_, rfl⟩
  rw [hW1] at B1 HD1 HN1 HX1
  have hlN1 : w.heap.size + 1 < w1.heap.size := Nat.lt_of_lt_of_le HN0.out.lt hb.size
  clear hb hbx B0 HD0 HN0 hW0 d0 d1 d2 d3 d4 d5 d6 d7 d8 HDR hmm i0 i1 es
  have hD1 := HD1.out
  obtain ⟨d0, d1, d2, d3, d4, d5, d6, d7, d8⟩ := hD1.cells9
  clear hD1
  go_wp2_with fail
  refine (HLD.out _ B1.out).mono ?_
  rintro e w2 ⟨rfl, hb⟩
  have B2 := Lib.hid (B1.out.trans (hb.mono B1.out.size))
  have HN2 := Lib.hid (HN1.out.kept hb)
  have HX2 := Lib.hid (HX1.out.kept hb)
  clear hb B1 HD1 HN1 HX1 hW1 d0 d1 d2 d3 d4 d5 d6 d7 d8 HLD
  obtain ⟨c, V, hV, hBf, hbV, hsz, hcap⟩ := bytes_conv' w2 own
  have HN3 := Lib.hid (HN2.out.kept hbV)
  have HX3 := Lib.hid (HX2.out.kept hbV)
  have B3 := Lib.hid (B2.out.trans (hbV.mono B2.out.size))
  have HBf := Lib.hid hBf
  have hl1 : w1.heap.size < w2.heap.size := HX2.out.lt
  have hlN : w.heap.size + 1 < w2.heap.size := HN2.out.lt
  have n0c := HN3.out.cell 0
  have n1c := HN3.out.cell 1
  simp only [List.getElem?_cons_zero, List.getElem?_cons_succ] at n0c n1c
  have qc := hBf.cell q hql
  rw [HGX.out] at qc
  have qf := hBf.frozen q hql
  have hlV : w2.heap.size < V.heap.size := by omega
  clear HN2 HX2 B2 hBf hbV hsz
  have j0 : (0 : Int) ≤ (q : Int) := by omega
  have j1 : (q : Int) < (own.size : Int) := by omega
  go_upto_region 7 with fail
  go_region
  obtain ⟨W4, hW4⟩ : ∃ W4, (V.setCell ⟨w2.heap.size, q, none⟩ (.int .u8 z)).drew = W4 := ⟨_, rfl⟩
  obtain ⟨l4, el4⟩ : ∃ l, own.data.toList.set q (UInt8.ofNat (z : Int).toNat) = l := ⟨_, rfl⟩
  have hl4 : l4.length = own.size := by rw [← el4, List.length_set, bytes_len]
  have HBf4 := Lib.hid (show Bf W4 w2.heap.size l4 by rw [← hW4, ← el4]; exact (HBf.out.set_ q (z : Int) (by omega) (by omega)).drew)
  have HN4 := Lib.hid (show At W4 (w.heap.size + 1) _ _ by rw [← hW4]; exact (HN3.out.far (p := ⟨w2.heap.size, q, none⟩) (by simp; omega) (.int .u8 z)).drew)
  have HX4 := Lib.hid (show At W4 w1.heap.size _ _ by rw [← hW4]; exact (HX3.out.far (p := ⟨w2.heap.size, q, none⟩) (by simp; omega) (.int .u8 z)).drew)
  have hw2 : w.heap.size ≤ w2.heap.size := by omega
  have B4 := Lib.hid (show Below w.heap.size w W4 by rw [← hW4]; exact (B3.out.setCell (p := ⟨w2.heap.size, q, none⟩) hw2 (.int .u8 z)).drew)
  rw [hW4]
  have HL4 := Lib.hid (And.intro hl4 (And.intro hoe hoe2))
  clear hW4 el4 HBf HN3 HX3 B3 n0c n1c qc qf hV hz1 hz2 hlV HGX hl4 hoe hoe2
  obtain ⟨ca, V5, hV5, hBa, hbV5, hsz5, hcap5⟩ := bytes_conv' W4 area
  have HBo := Lib.hid (HBf4.out.kept hbV5)
  have HN5 := Lib.hid (HN4.out.kept hbV5)
  have HX5 := Lib.hid (HX4.out.kept hbV5)
  have B5 := Lib.hid (B4.out.trans (hbV5.mono B4.out.size))
  have HBa := Lib.hid hBa
  have hlb : w2.heap.size < W4.heap.size := HBf4.out.lt
  have hx10 := HX4.out.cell 10
  simp only [List.getElem?_cons_zero, List.getElem?_cons_succ] at hx10
  have hl45 : W4.heap.size < V5.heap.size := by omega
  clear HBf4 HN4 HX4 B4 hBa hbV5 hsz5
  by_cases ha0 : area.size = 0
  · have t1 : decide (0 < (area.size : Int)) = false := decide_eq_false (by omega)
    have t1n : decide (0 < area.size) = false := decide_eq_false (by omega)
    have t1z : ¬ 0 < area.size := by omega
    have HA0 := Lib.hid ha0
    clear ha0
    obtain ⟨la, ela⟩ : ∃ l, area.data.toList = l := ⟨_, rfl⟩
    have hla : la.length = area.size := by rw [← ela, bytes_len]
    have HBl := Lib.hid (show Bf V5 W4.heap.size la by rw [← ela]; exact HBa.out)
    have HX6 := HX5
    have HN6 := HN5
    have HBo6 := HBo
    have B6 := B5
    clear HX5 HN5 HBo B5 HBa ela
    go_upto_region 11 with fail
    clear hV5 hx10
    clear t1 t1n t1z
    have hw4 : w.heap.size ≤ W4.heap.size := by omega
    obtain ⟨a', ea'⟩ : ∃ a' : ByteArray, (⟨la.toArray⟩ : ByteArray) = a' := ⟨_, rfl⟩
    have has : a'.size = area.size := by rw [← ea', size_ba, hla]
    obtain ⟨t, htz, LY⟩ := HLAY.out a' has
    have hcv := bytes_back HBl.out area.size ca hla.symm
    rw [ea'] at hcv
    have HX7 := Lib.hid (HX6.out.set_ 10 (.string a'))
    have HN7 := Lib.hid (HN6.out.far (p := ⟨w1.heap.size, 10, none⟩) (by simp; omega) (.string a'))
    have HBo7 := Lib.hid (HBo6.out.far (p := ⟨w1.heap.size, 10, none⟩) (by simp; omega) (.string a'))
    have B7 := Lib.hid (B6.out.setCell (p := ⟨w1.heap.size, 10, none⟩) (by simp; omega) (.string a'))
    have HLY := Lib.hid LY
    have hX6 := HX6.out
    obtain ⟨fx, x0, x1, x2, x3, x4, x5, x6, x7, x8, x9, x10, x11⟩ := hX6.cells12
    clear LY ea' hX6 HX6 HN6 HBo6 B6 HBl HLAY
    go_wp2_with fail
    refine (HLY.out _).mono ?_
    rintro e w8 ⟨rfl, hb⟩
    have B8 := Lib.hid (B7.out.trans (hb.mono B7.out.size))
    have HN8 := Lib.hid (HN7.out.kept hb)
    have HBo8 := Lib.hid (HBo7.out.kept hb)
    clear hb B7 HN7 HBo7 HX7 HLY fx x0 x1 x2 x3 x4 x5 x6 x7 x8 x9 x10 x11 hcv
    go_wp2_with fail
    refine (HSAME.out _ _ _ _ _ hss hos1).mono ?_
    rintro e w9 ⟨rfl, hb⟩
    have B9 := Lib.hid (B8.out.trans (hb.mono B8.out.size))
    have HN9 := Lib.hid (HN8.out.kept hb)
    have HBo9 := Lib.hid (HBo8.out.kept hb)
    clear hb B8 HN8 HBo8
    go_wp2_with fail
    refine (HSAME.out _ _ _ _ _ hos1 hss).mono ?_
    rintro e w10 ⟨rfl, hb⟩
    have B10 := Lib.hid (B9.out.trans (hb.mono B9.out.size))
    have HN10 := Lib.hid (HN9.out.kept hb)
    have HBo10 := Lib.hid (HBo9.out.kept hb)
    clear hb B9 HN9 HBo9
    obtain ⟨bent, eb⟩ : ∃ b : ByteArray, (⟨l4.toArray⟩ : ByteArray) = b := ⟨_, rfl⟩
    have hcv2 := bytes_back HBo10.out own.size c HL4.out.1.symm
    rw [eb] at hcv2
    have hbs : bent.size ≤ 9223372036854775807 := by rw [← eb, size_ba, HL4.out.1]; exact hos1
    clear eb
    go_wp2_with fail
    refine (HSAME.out _ _ _ _ _ hbs hos1).mono ?_
    rintro e w11 ⟨rfl, hb⟩
    have B11 := Lib.hid (B10.out.trans (hb.mono B10.out.size))
    have HN11 := Lib.hid (HN10.out.kept hb)
    clear hb B10 HN10 HBo10 hcv2
    go_wp2_with fail
    refine (HSAME.out _ _ _ _ _ htz htz).mono ?_
    rintro e w12 ⟨rfl, hb⟩
    have B12 := Lib.hid (B11.out.trans (hb.mono B11.out.size))
    have n0c := (HN11.out.kept hb).cell 0
    simp only [List.getElem?_cons_zero] at n0c
    clear hb B11 HN11
    obtain ⟨pre, ep⟩ : ∃ p, own.extract 0 q = p := ⟨_, rfl⟩
    have hps : pre.size ≤ 9223372036854775807 := by rw [← ep, ByteArray.size_extract]; omega
    have j2 : (q : Int) ≤ (own.size : Int) := by omega
    go_wp2_with fail
    refine (HSAME.out _ _ _ _ _ hps hos1).mono ?_
    rintro e w13 ⟨rfl, hb⟩
    have B13 := Lib.hid (B12.out.trans (hb.mono B12.out.size))
    clear hb B12 n0c ep
    go_wp2_with fail
    refine (HW.out _).mono ?_
    rintro e w14 ⟨rfl, hb⟩
    have B14 := Lib.hid (B13.out.trans (hb.mono B13.out.size))
    clear hb B13
    go_wp2_with fail
    go_ret
    exact ⟨rfl, B14.out⟩
  · have t1 : decide (0 < (area.size : Int)) = true := decide_eq_true (by omega)
    have t1n : decide (0 < area.size) = true := decide_eq_true (by omega)
    have t1z : 0 < area.size := by omega
    obtain ⟨qa, eqa⟩ : ∃ q, n0 % area.size = q := ⟨_, rfl⟩
    have hqa : qa < area.size := by rw [← eqa]; exact Nat.mod_lt _ (by omega)
    have qta : (n0 : Int).tmod (area.size : Int) = (qa : Int) := by rw [Int.tmod_eq_emod_of_nonneg (by omega), ← eqa]; rfl
    have qea : (n0 : Int) % (area.size : Int) = (qa : Int) := by rw [← eqa]; rfl
    have hnza : ¬ (area.size : Int) = 0 := by omega
    have hqla : qa < area.data.toList.length := by rw [bytes_len]; exact hqa
    have qf := HBa.out.frozen qa hqla
    have qc := HBa.out.cell qa hqla
    have n0c := HN5.out.cell 0
    have n1c := HN5.out.cell 1
    simp only [List.getElem?_cons_zero, List.getElem?_cons_succ] at n0c n1c
    have k0 : (0 : Int) ≤ (qa : Int) := by omega
    have k1 : (qa : Int) < (area.size : Int) := by omega
    have HEQA := Lib.hid eqa
    clear eqa
    go_upto_region 10 with fail
    clear hV5
    go_region
    obtain ⟨W6, hW6⟩ : ∃ W6, (V5.setCell ⟨W4.heap.size, qa, none⟩ (.int .u8 n1)).drew = W6 := ⟨_, rfl⟩
    obtain ⟨la, ela⟩ : ∃ l, area.data.toList.set qa (UInt8.ofNat (n1 : Int).toNat) = l := ⟨_, rfl⟩
    have hla : la.length = area.size := by rw [← ela, List.length_set, bytes_len]
    have HBl := Lib.hid (show Bf W6 W4.heap.size la by rw [← hW6, ← ela]; exact (HBa.out.set_ qa (n1 : Int) (by omega) (by omega)).drew)
    have HX6 := Lib.hid (show At W6 w1.heap.size _ _ by rw [← hW6]; exact (HX5.out.far (p := ⟨W4.heap.size, qa, none⟩) (by simp; omega) (.int .u8 n1)).drew)
    have HN6 := Lib.hid (show At W6 (w.heap.size + 1) _ _ by rw [← hW6]; exact (HN5.out.far (p := ⟨W4.heap.size, qa, none⟩) (by simp; omega) (.int .u8 n1)).drew)
    have HBo6 := Lib.hid (show Bf W6 w2.heap.size _ by rw [← hW6]; exact (HBo.out.far (p := ⟨W4.heap.size, qa, none⟩) (by simp; omega) (.int .u8 n1)).drew)
    have B6 := Lib.hid (show Below w.heap.size w W6 by rw [← hW6]; exact (B5.out.setCell (p := ⟨W4.heap.size, qa, none⟩) (by simp; omega) (.int .u8 n1)).drew)
    rw [hW6]
    clear hW6 ela HX5 HN5 HBo B5 HBa qta qea qf qc n0c n1c k0 k1 HEQA hx10 t1 t1n t1z
    have hw4 : w.heap.size ≤ W4.heap.size := by omega
    obtain ⟨a', ea'⟩ : ∃ a' : ByteArray, (⟨la.toArray⟩ : ByteArray) = a' := ⟨_, rfl⟩
    have has : a'.size = area.size := by rw [← ea', size_ba, hla]
    obtain ⟨t, htz, LY⟩ := HLAY.out a' has
    have hcv := bytes_back HBl.out area.size ca hla.symm
    rw [ea'] at hcv
    have HX7 := Lib.hid (HX6.out.set_ 10 (.string a'))
    have HN7 := Lib.hid (HN6.out.far (p := ⟨w1.heap.size, 10, none⟩) (by simp; omega) (.string a'))
    have HBo7 := Lib.hid (HBo6.out.far (p := ⟨w1.heap.size, 10, none⟩) (by simp; omega) (.string a'))
    have B7 := Lib.hid (B6.out.setCell (p := ⟨w1.heap.size, 10, none⟩) (by simp; omega) (.string a'))
    have HLY := Lib.hid LY
    have hX6 := HX6.out
    obtain ⟨fx, x0, x1, x2, x3, x4, x5, x6, x7, x8, x9, x10, x11⟩ := hX6.cells12
    clear LY ea' hX6 HX6 HN6 HBo6 B6 HBl HLAY
    go_wp2_with fail
    refine (HLY.out _).mono ?_
    rintro e w8 ⟨rfl, hb⟩
    have B8 := Lib.hid (B7.out.trans (hb.mono B7.out.size))
    have HN8 := Lib.hid (HN7.out.kept hb)
    have HBo8 := Lib.hid (HBo7.out.kept hb)
    clear hb B7 HN7 HBo7 HX7 HLY fx x0 x1 x2 x3 x4 x5 x6 x7 x8 x9 x10 x11 hcv
    go_wp2_with fail
    refine (HSAME.out _ _ _ _ _ hss hos1).mono ?_
    rintro e w9 ⟨rfl, hb⟩
    have B9 := Lib.hid (B8.out.trans (hb.mono B8.out.size))
    have HN9 := Lib.hid (HN8.out.kept hb)
    have HBo9 := Lib.hid (HBo8.out.kept hb)
    clear hb B8 HN8 HBo8
    go_wp2_with fail
    refine (HSAME.out _ _ _ _ _ hos1 hss).mono ?_
    rintro e w10 ⟨rfl, hb⟩
    have B10 := Lib.hid (B9.out.trans (hb.mono B9.out.size))
    have HN10 := Lib.hid (HN9.out.kept hb)
    have HBo10 := Lib.hid (HBo9.out.kept hb)
    clear hb B9 HN9 HBo9
    obtain ⟨bent, eb⟩ : ∃ b : ByteArray, (⟨l4.toArray⟩ : ByteArray) = b := ⟨_, rfl⟩
    have hcv2 := bytes_back HBo10.out own.size c HL4.out.1.symm
    rw [eb] at hcv2
    have hbs : bent.size ≤ 9223372036854775807 := by rw [← eb, size_ba, HL4.out.1]; exact hos1
    clear eb
    go_wp2_with fail
    refine (HSAME.out _ _ _ _ _ hbs hos1).mono ?_
    rintro e w11 ⟨rfl, hb⟩
    have B11 := Lib.hid (B10.out.trans (hb.mono B10.out.size))
    have HN11 := Lib.hid (HN10.out.kept hb)
    clear hb B10 HN10 HBo10 hcv2
    go_wp2_with fail
    refine (HSAME.out _ _ _ _ _ htz htz).mono ?_
    rintro e w12 ⟨rfl, hb⟩
    have B12 := Lib.hid (B11.out.trans (hb.mono B11.out.size))
    have n0c := (HN11.out.kept hb).cell 0
    simp only [List.getElem?_cons_zero] at n0c
    clear hb B11 HN11
    obtain ⟨pre, ep⟩ : ∃ p, own.extract 0 q = p := ⟨_, rfl⟩
    have hps : pre.size ≤ 9223372036854775807 := by rw [← ep, ByteArray.size_extract]; omega
    have j2 : (q : Int) ≤ (own.size : Int) := by omega
    go_wp2_with fail
    refine (HSAME.out _ _ _ _ _ hps hos1).mono ?_
    rintro e w13 ⟨rfl, hb⟩
    have B13 := Lib.hid (B12.out.trans (hb.mono B12.out.size))
    clear hb B12 n0c ep
    go_wp2_with fail
    refine (HW.out _).mono ?_
    rintro e w14 ⟨rfl, hb⟩
    have B14 := Lib.hid (B13.out.trans (hb.mono B13.out.size))
    clear hb B13
    go_wp2_with fail
    go_ret
    exact ⟨rfl, B14.out⟩
end Go.Proofs.Ytdkkfhlijapbeaa
