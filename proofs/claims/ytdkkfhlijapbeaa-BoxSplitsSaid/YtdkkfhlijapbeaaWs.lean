/- BoxSplits, walked. -/
import Derived.Test.YtdkkfhlijapbeaaG2
import Derived.Test.YtdkkfhlijapbeaaSd
import Derived.Test.YtdkkfhlijapbeaaMs
import Derived.Deep.QuietTactic
import Derived.BigQuiet
namespace Go.Proofs.Ytdkkfhlijapbeaa
open Go.RowKit Pl Go.Shelf
attribute [local go_sem ↓] Go.wp_at_zero Go.wp_at_succ

/-- A call of two texts, named. -/
def Merges (s t u : ByteArray) (k : Int) : Prop := ∀ w, Calls Try.prog 16 #[.string s, .string t] w fun e w' => e = .returned (.tuple #[.string u, .int .i64 k]) ∧ Below w.heap.size w w'
def Splits (s : ByteArray) (k : Nat) (t u : ByteArray) : Prop := ∀ w, Calls Try.prog 14 #[.string s, .int .i64 k] w fun e w' => e = .returned (.tuple #[.string t, .string u, .int .i64 0]) ∧ Below w.heap.size w w'
theorem merges_yes {s t u : ByteArray} (hs : s.size ≤ 9223372036854775807) (ht : t.size ≤ 9223372036854775807) (h : mergeR s t = (u, 0)) : Merges s t u 0 := fun w => by
  have := merge_call s t w hs ht; rw [h] at this; exact this
theorem merges_not {s t u : ByteArray} (hs : s.size ≤ 9223372036854775807) (ht : t.size ≤ 9223372036854775807) (h : mergeR s t = (u, 2)) : Merges s t u 2 := fun w => by
  have := merge_call s t w hs ht; rw [h] at this; exact this
theorem splits_of {s t u : ByteArray} {k : Nat} (hs : s.size ≤ 9223372036854775807) (h : splitR s k = (t, u, 0)) : Splits s k t u := fun w => by
  have := split_any s k w hs; rw [h] at this; exact this
theorem ok_le (x : Sg) (h : x.Ok) : x.bytes.size ≤ 9223372036854775807 := by rw [bytes_size x]; have := h.h5; have := h.h7; omega

theorem parse_bytes (x : Sg) (h : x.Ok) : ParseTo 15 x.bytes x 0 := by
  have := parse_ok _ (ok_le x h) (read_bytes x h).2; rw [(read_bytes x h).1] at this; exact this

set_option maxRecDepth 100000 in
set_option maxHeartbeats 8000000 in
theorem boxSplits_any (d : Dr) (at_ again : Nat) (w : World) (hd : d.Ok w) (_hat : at_ < 256) (_hag : again < 256) :
    Calls Try.prog 5 #[d.v, .int .u8 at_, .int .u8 again] w fun e w' => e = .returned (.bool true) ∧ Below w.heap.size w w' := by
  have hDR : ∀ w', Below w.heap.size w w' → Calls Try.prog 9 #[d.v] w' fun e w'' => e = .returned (drSeg d).v ∧ Below w'.heap.size w' w'' := fun w' hb => draft_any d w' (hd.kept hb)
  obtain ⟨hxo, hx100⟩ := drSeg_ok d hd
  obtain ⟨kb, kn, kc, hkv⟩ := hd.form
  obtain ⟨x, ex⟩ : ∃ x, drSeg d = x := ⟨_, rfl⟩
  rw [ex] at hDR hxo hx100
  have HDR := Lib.hid hDR
  clear hDR ex
  obtain ⟨src, dst, seq, ack, syn, ackOn, fin, rst, win, area, data0⟩ := x
  obtain ⟨data, edata⟩ : ∃ b : ByteArray, data0 ++ ⟨#[122, 122]⟩ = b := ⟨_, rfl⟩
  have hds : data.size = data0.size + 2 := by rw [← edata, ByteArray.size_append]; rfl
  simp only at hx100
  have hXo : (⟨src, dst, seq, ack, false, ackOn, fin, false, win, area, data⟩ : Sg).Ok := ⟨hxo.h0, hxo.h1, hxo.h2, hxo.h3, hxo.h4, hxo.h5, hxo.h6, by show data.size ≤ 1024; omega⟩
  obtain ⟨r, er⟩ : ∃ r, data.size - 1 = r := ⟨_, rfl⟩
  obtain ⟨q, eq⟩ : ∃ q, at_ % r = q := ⟨_, rfl⟩
  have hq : q < r := by rw [← eq]; exact Nat.mod_lt _ (by omega)
  obtain ⟨k, ek⟩ : ∃ k, 1 + q = k := ⟨_, rfl⟩
  have h1 : 1 ≤ k := by omega
  have hk : k < data.size := by omega
  have hs2 : seq < 4294967296 := hXo.h2
  have hAo := splitA_ok hXo k
  have hZo := splitZ_ok hXo k
  have SPL := splits_of (ok_le _ hXo) (split_bytes_R _ hXo k h1 hk rfl rfl)
  have M1 := merges_yes (ok_le _ hAo) (ok_le _ hZo) (split_back _ hXo rfl rfl k h1 hk)
  have M2 := merges_not (ok_le _ hZo) (ok_le _ hAo) (split_turned _ hXo rfl rfl k h1 hk)
  have hlen := cut_len data k (by omega)
  have hjn := cut_join data k (by omega)
  have PA := parse_bytes _ hAo
  have PZ := parse_bytes _ hZo
  have LX := lay_ok _ hXo
  -- the second split
  have REST : ∀ j : Nat, 1 ≤ j → j < (data.extract k data.size).size → ∃ c l f : ByteArray,
      Splits (splitZ (⟨src, dst, seq, ack, false, ackOn, fin, false, win, area, data⟩ : Sg) k).bytes j c l ∧ Merges (splitA (⟨src, dst, seq, ack, false, ackOn, fin, false, win, area, data⟩ : Sg) k).bytes l ⟨#[]⟩ 2 ∧
      Merges (splitA (⟨src, dst, seq, ack, false, ackOn, fin, false, win, area, data⟩ : Sg) k).bytes c f 0 ∧ Merges f l (⟨src, dst, seq, ack, false, ackOn, fin, false, win, area, data⟩ : Sg).bytes 0 := fun j g1 hj =>
    ⟨_, _, _, splits_of (ok_le _ hZo) (split_bytes_R _ hZo j g1 hj rfl rfl), merges_not (ok_le _ hAo) (ok_le _ (splitZ_ok hZo j)) (split_gap _ hXo rfl rfl k j h1 hk g1 hj),
      merges_yes (ok_le _ hAo) (ok_le _ (splitA_ok hZo j)) (front_R _ hXo rfl rfl k j h1 hk g1 hj), merges_yes (ok_le _ (front_ok _ hXo rfl rfl k j h1 hk g1 hj)) (ok_le _ (splitZ_ok hZo j)) (all_R _ hXo rfl rfl k j h1 hk g1 hj)⟩
  obtain ⟨s, es⟩ : ∃ s, (⟨src, dst, seq, ack, false, ackOn, fin, false, win, area, data⟩ : Sg).bytes = s := ⟨_, rfl⟩
  obtain ⟨a, ea⟩ : ∃ s, (splitA (⟨src, dst, seq, ack, false, ackOn, fin, false, win, area, data⟩ : Sg) k).bytes = s := ⟨_, rfl⟩
  obtain ⟨b, eb⟩ : ∃ s, (splitZ (⟨src, dst, seq, ack, false, ackOn, fin, false, win, area, data⟩ : Sg) k).bytes = s := ⟨_, rfl⟩
  rw [es] at SPL M1 LX REST
  rw [ea] at SPL M1 M2 PA REST
  rw [eb] at SPL M1 M2 PZ REST
  unfold splitA at PA
  unfold splitZ at PZ
  simp only at PA PZ hlen hjn
  obtain ⟨da, eda⟩ : ∃ x, data.extract 0 k = x := ⟨_, rfl⟩
  obtain ⟨dz, edz⟩ : ∃ x, data.extract k data.size = x := ⟨_, rfl⟩
  obtain ⟨sq, esq⟩ : ∃ x, plusN seq k = x := ⟨_, rfl⟩
  rw [eda] at PA hlen hjn
  rw [edz] at PZ hlen hjn REST
  rw [esq] at PZ
  have HSPL := Lib.hid SPL
  have HM1 := Lib.hid M1
  have HM2 := Lib.hid M2
  have HPA := Lib.hid PA
  have HPZ := Lib.hid PZ
  have HLX := Lib.hid LX
  have HREST := Lib.hid REST
  have HW := Lib.hid works_yes
  have hsub : (data.size : Int) - 1 = (r : Int) := by omega
  have hsubw : IntKind.i64.wrap ((data.size : Int) - 1) = (r : Int) := by rw [hsub]; exact IntWalk.i64_in _ (by omega)
  have hmod : (at_ : Int) % (r : Int) = (q : Int) := by rw [← eq]; rfl
  have hmodt : (at_ : Int).tmod (r : Int) = (q : Int) := by rw [Int.tmod_eq_emod_of_nonneg (by omega)]; exact hmod
  have hnz : ¬ (r : Int) = 0 := by omega
  have hadd : 1 + (q : Int) = (k : Int) := by omega
  have haddw : IntKind.i64.wrap (1 + (q : Int)) = (k : Int) := by rw [hadd]; exact IntWalk.i64_in _ (by omega)
  have wk : IntKind.u32.wrap (k : Int) = (k : Int) := IntWalk.u32_in _ (by omega)
  have hsqv : IntKind.u32.wrap ((seq : Int) + (k : Int)) = (sq : Int) := by rw [← esq, IntKind.wrap_u32]; unfold plusN; omega
  have HSQ := Lib.hid (And.intro hsqv wk)
  have HLEN := Lib.hid hlen
  have HJN := Lib.hid hjn
  have HE := Lib.hid edata
  have HMOD := Lib.hid (And.intro hsub (And.intro hsubw (And.intro hmod (And.intro hmodt (And.intro hadd haddw)))))
  have hd102 : data.size ≤ 102 := by omega
  have hd0 : data0.size ≤ 100 := hx100
  have hcat : ¬ 9223372036854775807 < data0.size + 2 := by omega
  have hk2 : k < data.size := hk
  clear SPL M1 M2 PA PZ LX REST edata er eq ek hlen hjn hXo hAo hZo hxo es ea eb eda edz esq hds hd hk hx100 hsub hsubw hmod hmodt hadd haddw wk hsqv hq
  unfold Dr.v at HDR ⊢
  rw [hkv] at HDR ⊢
  clear hkv
  go_enter Try.func5, Try.ntmps5
  go_wp2_with fail
  refine (HW.out _).mono ?_
  rintro e w1 ⟨rfl, hb⟩
  have B1 := Lib.hid (allocThen (Below.refl _ w) hb)
  have hD1 : At w1 w.heap.size 26 [.int .u16 d.src, .int .u16 d.dst, .int .u16 d.win, .int .u32 d.seq, .int .u32 d.ack, .int .u8 d.flags, .slice kb kn kc, .string d.body, .string d.data] := (At.of_new w _ _).kept hb
  obtain ⟨d0, d1, d2, d3, d4, d5, d6, d7, d8⟩ := hD1.cells9
  clear hb hD1
  go_wp2_with fail
  refine (HDR.out _ B1.out).mono ?_
  unfold Sg.v
  rintro e w2 ⟨rfl, hb⟩
  have B2 := Lib.hid (B1.out.trans (hb.mono B1.out.size))
  clear hb d0 d1 d2 d3 d4 d5 d6 d7 d8 B1 HDR
  obtain ⟨W2, hW2⟩ : ∃ W2, w2.alloc (.cells #[.int .i64 0, .int .u16 src, .int .u16 dst, .int .u32 seq, .int .u32 ack, .bool false, .bool ackOn, .bool fin, .bool false, .int .u16 win, .string area, .string data] 29) = W2 := ⟨_, rfl⟩
  have hX2 : At W2 w2.heap.size 29 [.int .i64 0, .int .u16 src, .int .u16 dst, .int .u32 seq, .int .u32 ack, .bool false, .bool ackOn, .bool fin, .bool false, .int .u16 win, .string area, .string data] := by rw [← hW2]; exact At.of_new _ _ _
  have B3 := Lib.hid (show Below w.heap.size w W2 by rw [← hW2]; exact B2.out.alloc B2.out.size _)
  have hjoin := HE.out
  have HX2 := Lib.hid hX2
  obtain ⟨fx, x0, x1, x2, x3, x4, x5, x6, x7, x8, x9, x10, x11⟩ := hX2.cells12
  clear B2 hX2
  go_wp2_with fail
  refine (HLX.out _).mono ?_
  rintro e w3 ⟨rfl, hb⟩
  have HX3 := Lib.hid (HX2.out.kept hb)
  have B4 := Lib.hid (B3.out.trans (hb.mono B3.out.size))
  clear hb fx x0 x1 x2 x3 x4 x5 x6 x7 x8 x9 x10 x11 HX2 B3 hW2 HLX hjoin hcat
  have hX3 := HX3.out
  obtain ⟨fx, x0, x1, x2, x3, x4, x5, x6, x7, x8, x9, x10, x11⟩ := hX3.cells12
  obtain ⟨m1, m2, m3, m4, m5, m6⟩ := HMOD.out
  clear hX3
  go_wp2_with fail
  refine (HSPL.out _).mono ?_
  rintro e w4 ⟨rfl, hb⟩
  have B5 := Lib.hid (B4.out.trans (hb.mono B4.out.size))
  have HX4 := Lib.hid (HX3.out.kept hb)
  clear hb B4 HSPL HX3 fx x0 x1 x2 x3 x4 x5 x6 x7 x8 x9 x10 x11 HW HE m1 m2 m3 m4 m5 m6 HMOD hnz
  go_wp2_with fail
  refine (HPA.out _).mono ?_
  unfold Sg.v
  rintro e w5 ⟨rfl, hb⟩
  have hb2 := hb.trans (((Below.refl _ w5).alloc (Nat.le_refl _) (.cells #[.int .i64 0, .int .u16 src, .int .u16 dst, .int .u32 seq, .int .u32 ack, .bool false, .bool ackOn, .bool false, .bool false, .int .u16 win, .string area, .string da] 29)).mono hb.size)
  have HX5 := Lib.hid (HX4.out.kept hb2)
  have HY5 := Lib.hid (At.of_new w5 29 #[.int .i64 0, .int .u16 src, .int .u16 dst, .int .u32 seq, .int .u32 ack, .bool false, .bool ackOn, .bool false, .bool false, .int .u16 win, .string area, .string da])
  have B6 := Lib.hid (B5.out.trans (hb2.mono B5.out.size))
  clear hb hb2 B5 HPA HX4
  go_wp2_with fail
  refine (HPZ.out _).mono ?_
  unfold Sg.v
  rintro e w6 ⟨rfl, hb⟩
  have hb2 := hb.trans (((Below.refl _ w6).alloc (Nat.le_refl _) (.cells #[.int .i64 0, .int .u16 src, .int .u16 dst, .int .u32 sq, .int .u32 ack, .bool false, .bool ackOn, .bool fin, .bool false, .int .u16 win, .string area, .string dz] 29)).mono hb.size)
  have HX6 := Lib.hid (HX5.out.kept hb2)
  have HY6 := Lib.hid (HY5.out.kept hb2)
  have HZ6 := Lib.hid (At.of_new w6 29 #[.int .i64 0, .int .u16 src, .int .u16 dst, .int .u32 sq, .int .u32 ack, .bool false, .bool ackOn, .bool fin, .bool false, .int .u16 win, .string area, .string dz])
  have B7 := Lib.hid (B6.out.trans (hb2.mono B6.out.size))
  clear hb hb2 B6 HPZ HX5 HY5
  have hX := HX6.out
  have hY := HY6.out
  have hZ := HZ6.out
  obtain ⟨W6, hW6⟩ : ∃ W6, (w6.alloc (.cells #[.int .i64 0, .int .u16 src, .int .u16 dst, .int .u32 sq, .int .u32 ack, .bool false, .bool ackOn, .bool fin, .bool false, .int .u16 win, .string area, .string dz] 29)) = W6 := ⟨_, rfl⟩
  rw [hW6] at hX hY hZ B7
  clear HX6 HY6 HZ6
  obtain ⟨fx, x0, x1, x2, x3, x4, x5, x6, x7, x8, x9, x10, x11⟩ := hX.cells12
  obtain ⟨fy, y0, y1, y2, y3, y4, y5, y6, y7, y8, y9, y10, y11⟩ := hY.cells12
  obtain ⟨fz, z0, z1, z2, z3, z4, z5, z6, z7, z8, z9, z10, z11⟩ := hZ.cells12
  clear hX hY hZ
  have hdz2 : dz.size + k = data.size := HLEN.out.2
  have hdak : da.size = k := HLEN.out.1
  have hjn := HJN.out
  have hcat1 : ¬ 9223372036854775807 < da.size + dz.size := by omega
  have hcat2 : ¬ 9223372036854775807 < k + dz.size := by omega
  obtain ⟨hsqv, wk⟩ := HSQ.out
  have HDZ : Hid (dz.size + k = data.size) := hdz2
  have hdz102 : dz.size ≤ 102 := by omega
  have hdz1 : 1 ≤ dz.size := by omega
  clear hdz2
  have hl6 : w6.heap.size < W6.heap.size := block_lt_of_cell z11
  have HZ := Lib.hid z11
  go_wp2_with fail
  refine (HM1.out _).mono ?_
  rintro e w8 ⟨rfl, hb⟩
  have B9 := Lib.hid (B7.out.trans (hb.mono B7.out.size))
  have HZ2 := Lib.hid ((hb.cell (p := ⟨w6.heap.size, 11, none⟩) hl6).trans HZ.out)
  have hl7 : w6.heap.size < w8.heap.size := Nat.lt_of_lt_of_le hl6 hb.size
  clear hb B7 HM1 HZ hW6 fx x0 x1 x2 x3 x4 x5 x6 x7 x8 x9 x10 x11 fy y0 y1 y2 y3 y4 y5 y6 y7 y8 y9 y10 y11 fz z0 z1 z2 z3 z4 z5 z6 z7 z8 z9 z10 z11 hjn hdak hcat1 hcat2 hsqv wk HSQ HLEN HJN
  go_wp2_with fail
  refine (HM2.out _).mono ?_
  rintro e w9 ⟨rfl, hb⟩
  have B10 := Lib.hid (B9.out.trans (hb.mono B9.out.size))
  have z11 := (hb.cell (p := ⟨w6.heap.size, 11, none⟩) hl7).trans HZ2.out
  clear hb B9 HM2 HZ2
  by_cases hz2 : dz.size < 2
  · have t1 : decide ((dz.size : Int) < 2) = true := by simp; omega
    go_wp2_with fail
    go_ret
    exact ⟨rfl, B10.out⟩
  have t1 : decide ((dz.size : Int) < 2) = false := by simp; omega
  obtain ⟨r2, er⟩ : ∃ r, dz.size - 1 = r := ⟨_, rfl⟩
  obtain ⟨q2, eq⟩ : ∃ q, again % r2 = q := ⟨_, rfl⟩
  have hq : q2 < r2 := by rw [← eq]; exact Nat.mod_lt _ (by omega)
  obtain ⟨j, ej⟩ : ∃ k, 1 + q2 = k := ⟨_, rfl⟩
  obtain ⟨c, l, f, S2, G1, G2, G3⟩ := HREST.out j (by omega) (by omega)
  have hj102 : j ≤ 102 := by omega
  have hj1 : 1 ≤ j := by omega
  have HS2 := Lib.hid S2
  have HG1 := Lib.hid G1
  have HG2 := Lib.hid G2
  have HG3 := Lib.hid G3
  have hsub : (dz.size : Int) - 1 = (r2 : Int) := by omega
  have hsubw : IntKind.i64.wrap ((dz.size : Int) - 1) = (r2 : Int) := by rw [hsub]; exact IntWalk.i64_in _ (by omega)
  have hmod : (again : Int) % (r2 : Int) = (q2 : Int) := by rw [← eq]; rfl
  have hmodt : (again : Int).tmod (r2 : Int) = (q2 : Int) := by rw [Int.tmod_eq_emod_of_nonneg (by omega)]; exact hmod
  have hnz : ¬ (r2 : Int) = 0 := by omega
  have hadd : 1 + (q2 : Int) = (j : Int) := by omega
  have haddw : IntKind.i64.wrap (1 + (q2 : Int)) = (j : Int) := by rw [hadd]; exact IntWalk.i64_in _ (by omega)
  clear S2 G1 G2 G3 er eq ej HREST hq HDZ
  go_wp2_with fail
  refine (HS2.out _).mono ?_
  rintro e w10 ⟨rfl, hb⟩
  have B11 := Lib.hid (B10.out.trans (hb.mono B10.out.size))
  clear hb B10 HS2 z11 hsub hsubw hmod hmodt hnz hadd haddw t1
  go_wp2_with fail
  refine (HG1.out _).mono ?_
  rintro e w11 ⟨rfl, hb⟩
  have B12 := Lib.hid (B11.out.trans (hb.mono B11.out.size))
  clear hb B11 HG1
  go_wp2_with fail
  refine (HG2.out _).mono ?_
  rintro e w12 ⟨rfl, hb⟩
  have B13 := Lib.hid (B12.out.trans (hb.mono B12.out.size))
  clear hb B12 HG2
  go_wp2_with fail
  refine (HG3.out _).mono ?_
  rintro e w13 ⟨rfl, hb⟩
  have B14 := Lib.hid (B13.out.trans (hb.mono B13.out.size))
  clear hb B13 HG3
  go_wp2_with fail
  go_ret
  exact ⟨rfl, B14.out⟩
end Go.Proofs.Ytdkkfhlijapbeaa
