/- HeadTells walked. -/
import Derived.Test.YtdbakdkhjijjhaaBn
import Derived.Test.YtdbakdkhjijjhaaL1
import Derived.Test.YtdbakdkhjijjhaaPk
namespace Go.Proofs.Ytdbakdkhjijjhaa
open Go.RowKit Pl

/-- What both read: the same, whatever the bytes. -/
def BothP (s : ByteArray) : Prop :=
    ∃ (src dst seq ack : Nat) (syn ackOn fin rst : Bool) (win : Nat) (area data : ByteArray) (k : Nat),
      Hid (∀ w, Calls Try.prog 14 #[.string s] w fun e w' => e = .returned (.tuple #[.agg #[.int .i64 0, .int .u16 src, .int .u16 dst, .int .u32 seq, .int .u32 ack, .bool syn, .bool ackOn, .bool fin, .bool rst, .int .u16 win, .string area, .string data], .int .i64 k]) ∧ Below w.heap.size w w') ∧
      Hid (∀ w, Calls Try.prog 15 #[.string s] w fun e w' => e = .returned (.tuple #[.agg #[.int .i64 0, .int .u16 src, .int .u16 dst, .int .u32 seq, .int .u32 ack, .bool syn, .bool ackOn, .bool fin, .bool rst, .int .u16 win, .string area, .string data], .int .i64 k]) ∧ Below w.heap.size w w')
theorem both_parse (s : ByteArray) (hz : s.size ≤ 9223372036854775807) : BothP s := by
  by_cases h : rightL s.data.toList = 0
  · exact ⟨_, _, _, _, _, _, _, _, _, _, _, 0, fun w => parse_good s w hz h, fun w => rparse_good s w hz h⟩
  · exact ⟨0, 0, 0, 0, false, false, false, false, 0, ⟨#[]⟩, ⟨#[]⟩, rightL s.data.toList, fun w => parse_bad s w hz h, fun w => rparse_bad s w hz h⟩

theorem ref_lay (path : Int) (src dst seq ack : Nat) (syn ackOn fin rst : Bool) (win : Nat) (area data : ByteArray)
    (h0 : src < 65536) (h1 : dst < 65536) (h2 : seq < 4294967296) (h3 : ack < 4294967296) (h4 : win < 65536) (hs1 : area.size ≤ 9223372036854775807) (hs2 : data.size ≤ 9223372036854775807) :
    ∃ (t : ByteArray) (k : Nat), t.size ≤ 1084 ∧
      Hid (∀ w, Calls Try.prog 10 #[.agg (segC path src dst seq ack syn ackOn fin rst win area data).toArray] w fun e w' => e = .returned (.tuple #[.string t, .int .i64 k]) ∧ Below w.heap.size w w') := by
  by_cases h : 40 < area.size ∨ area.size % 4 ≠ 0 ∨ 1024 < data.size
  · exact ⟨⟨#[]⟩, 6, by decide, fun w => rlay_bad path src dst seq ack syn ackOn fin rst win area data w hs1 hs2 h⟩
  · refine ⟨_, 0, ?_, fun w => rlay_good path src dst seq ack syn ackOn fin rst win area data w h0 h1 h2 h3 h4 (by omega) (by omega) (by omega)⟩
    rw [size_ba, segL_length, bytes_len, bytes_len]; omega

/-- Where the call stands: the bends, all else as it was. -/
def Sn (w W : World) (ds : List Value) : Prop := At W (w.heap.size + 2) 38 ds ∧ Below w.heap.size w W
theorem Sn.drew {w W : World} {ds : List Value} (h : Sn w W ds) : Sn w W.drew ds := ⟨h.1, h.2.drew⟩
theorem Sn.kept {w W W' : World} {ds : List Value} (h : Sn w W ds) (hb : Below W.heap.size W W') : Sn w W' ds := ⟨h.1.kept hb, h.2.trans (hb.mono h.2.size)⟩

set_option maxHeartbeats 4000000 in
theorem headTells_any (sa sd sl : Nat) (path : Int) (src dst seq ack : Nat) (syn ackOn fin rst : Bool) (win : Nat) (area data : ByteArray) (c0 u0 c1 u1 : Bool) (n0 n1 v0 v1 : Nat) (raw : ByteArray) (w : World)
    (g0 : sa < 256) (g1 : sd < 65536) (g2 : sl < 256) (g3 : n0 < 65536) (g4 : n1 < 65536) (g5 : v0 < 256) (g6 : v1 < 256)
    (h0 : src < 65536) (h1 : dst < 65536) (h2 : seq < 4294967296) (h3 : ack < 4294967296) (h4 : win < 65536) (hr : raw.size ≤ 9223372036854775807) :
    Calls Try.prog 4 #[.agg (segC path src dst seq ack syn ackOn fin rst win area data).toArray, .agg #[.int .u8 sa, .int .u16 sd, .int .u8 sl], .agg #[.bool c0, .bool u0, .int .u16 n0, .int .u8 v0, .bool c1, .bool u1, .int .u16 n1, .int .u8 v1], .string raw] w fun e w' =>
      e = .returned (.bool true) ∧ Below w.heap.size w w' := by
  have HF : Hid (∀ w, Calls Try.prog 8 #[.agg #[.int .u8 sa, .int .u16 sd, .int .u8 sl], .agg (segC path src dst seq ack syn ackOn fin rst win area data).toArray] w fun e w' =>
      e = .returned (.agg (segC path src dst seq ack syn ackOn fin rst win (fillA sa sl) (fillD sd sl)).toArray) ∧ Below w.heap.size w w') := fun w => filled_any sa sd sl path src dst seq ack syn ackOn fin rst win area data w g0 g1 g2
  have z1 := fillA_size sa sl
  have z2 := fillD_size sd sl
  obtain ⟨a', ea⟩ : ∃ a, fillA sa sl = a := ⟨_, rfl⟩
  obtain ⟨d', ed⟩ : ∃ d, fillD sd sl = d := ⟨_, rfl⟩
  rw [ea, ed] at HF
  rw [ea] at z1
  rw [ed] at z2
  clear ea ed
  obtain ⟨one, k0, zo, HL⟩ := ref_lay path src dst seq ack syn ackOn fin rst win a' d' h0 h1 h2 h3 h4 (by omega) (by omega)
  obtain ⟨t1, et1⟩ : ∃ t, bentS c0 u0 n0 v0 one = t := ⟨_, rfl⟩
  have zt1 : t1.size ≤ 1084 := by have := bentS_size c0 u0 n0 v0 one; rw [et1] at this; omega
  have HB0 : Hid (∀ w, Calls Try.prog 13 #[.agg #[.bool c0, .bool u0, .int .u16 n0, .int .u8 v0], .string one] w fun e w' => e = .returned (.string t1) ∧ Below w.heap.size w w') := by
    rw [← et1]; exact fun w => bent_any c0 u0 n0 v0 one w g3 g5 (by omega)
  obtain ⟨t2, et2⟩ : ∃ t, bentS c1 u1 n1 v1 t1 = t := ⟨_, rfl⟩
  have zt2 : t2.size ≤ 1084 := by have := bentS_size c1 u1 n1 v1 t1; rw [et2] at this; omega
  have HB1 : Hid (∀ w, Calls Try.prog 13 #[.agg #[.bool c1, .bool u1, .int .u16 n1, .int .u8 v1], .string t1] w fun e w' => e = .returned (.string t2) ∧ Below w.heap.size w w') := by
    rw [← et2]; exact fun w => bent_any c1 u1 n1 v1 t1 w g4 g6 (by omega)
  have P0 := both_parse one (by omega)
  have P1 := both_parse t1 (by omega)
  have P2 := both_parse t2 (by omega)
  have P3 := both_parse raw hr
  clear z1 z2 h0 h1 h2 h3 h4 g0 g1 g2 g3 g4 g5 g6 et1 et2 zo zt1 zt2 hr
  unfold segC
  go_enter Try.func4, Try.ntmps4
  go_wp2_with fail
  refine (HF.out _).mono ?_
  unfold segC
  rintro e w1 ⟨rfl, hb1⟩
  have hS : Sn w w1 [.bool c0, .bool u0, .int .u16 n0, .int .u8 v0, .bool c1, .bool u1, .int .u16 n1, .int .u8 v1] :=
    ⟨(At.new1 (At.of_new _ _ _) (by simp)).kept hb1, ((((Below.refl _ w).alloc (Nat.le_refl _) _).alloc (by simp) _).alloc (by simp; omega) _).trans (hb1.mono (by simp; omega))⟩
  have HS1 := Lib.hid hS
  clear hS hb1
  go_wp2_with fail
  refine (HL.out _).mono ?_
  rintro e w2 ⟨rfl, hb2⟩
  have hS := HS1.out.kept hb2
  clear HS1 hb2
  go_upto_region 2 with fail
  refine wp_region_all (fun w' => Sn w w' [.bool c0, .bool u0, .int .u16 n0, .int .u8 v0, .bool c1, .bool u1, .int .u16 n1, .int .u8 v1]) (by kernel_rfl) (by kernel_rfl) hS.drew ?_
  clear hS
  iterate 4
    refine wpQuiet_val (v := ?_) (by rfl) (fun w' hw' => ?_) ?_
    rotate_left
    · have hcx := hw'.1.cell
      clear hw'
      go_simp
      exact rfl
    simp only [Act.put, List.setIfInBounds_toArray, List.set_cons_zero, List.set_cons_succ]
  refine wpQuiet_val (v := .string t1) (by rfl) (fun w' hw' => ?_) ?_
  · go_simp
    refine (HB0.out w').mono ?_
    rintro e w2 ⟨rfl, hb2⟩
    exact ⟨rfl, hw'.kept hb2⟩
  simp only [Act.put, List.setIfInBounds_toArray, List.set_cons_zero, List.set_cons_succ]
  iterate 5
    refine wpQuiet_val (v := ?_) (by rfl) (fun w' hw' => ?_) ?_
    rotate_left
    · have hcx := hw'.1.cell
      clear hw'
      go_simp
      exact rfl
    simp only [Act.put, List.setIfInBounds_toArray, List.set_cons_zero, List.set_cons_succ]
  refine wpQuiet_val (v := .string t1) (by rfl) (fun w' hw' => ?_) ?_
  · go_simp
    refine (HB0.out w').mono ?_
    rintro e w2 ⟨rfl, hb2⟩
    exact ⟨rfl, hw'.kept hb2⟩
  simp only [Act.put, List.setIfInBounds_toArray, List.set_cons_zero, List.set_cons_succ]
  refine wpQuiet_val (v := .string t2) (by rfl) (fun w' hw' => ?_) ?_
  · go_simp
    refine (HB1.out w').mono ?_
    rintro e w2 ⟨rfl, hb2⟩
    exact ⟨rfl, hw'.kept hb2⟩
  simp only [Act.put, List.setIfInBounds_toArray, List.set_cons_zero, List.set_cons_succ]
  iterate 3
    refine wpQuiet_val (v := ?_) (by rfl) (fun w' hw' => ?_) ?_
    rotate_left
    · have hcx := hw'.1.cell
      clear hw'
      go_simp
      exact rfl
    simp only [Act.put, List.setIfInBounds_toArray, List.set_cons_zero, List.set_cons_succ]
  refine wpQuiet_nil ?_
  intro w' hw'
  have HW := Lib.hid hw'.2
  clear hw' HB0 HB1 HL HF
  have j0 : ∀ (x0 x1 x2 x3 : Value) (w : World), (Instr.index 40 (.agg #[x0, x1, x2, x3]) (.int .i64 0)).run Try.prog w = .ok x0 w := fun _ _ _ _ _ => by kernel_rfl
  have j1 : ∀ (x0 x1 x2 x3 : Value) (w : World), (Instr.index 40 (.agg #[x0, x1, x2, x3]) (.int .i64 1)).run Try.prog w = .ok x1 w := fun _ _ _ _ _ => by kernel_rfl
  have j2 : ∀ (x0 x1 x2 x3 : Value) (w : World), (Instr.index 40 (.agg #[x0, x1, x2, x3]) (.int .i64 2)).run Try.prog w = .ok x2 w := fun _ _ _ _ _ => by kernel_rfl
  have j3 : ∀ (x0 x1 x2 x3 : Value) (w : World), (Instr.index 40 (.agg #[x0, x1, x2, x3]) (.int .i64 3)).run Try.prog w = .ok x3 w := fun _ _ _ _ _ => by kernel_rfl
  go_wp2
  refine wp_loop_rounds 5 ?_
  rw [rounds_succ]
  obtain ⟨src0, dst0, seq0, ack0, syn0, ackOn0, fin0, rst0, win0, area0, data0, k0, A0, B0⟩ := P0
  go_wp2_with fail
  refine (A0.out _).mono ?_
  rintro e w1 ⟨rfl, hb1⟩
  have hb1' := Lib.hid (HW.out.trans (hb1.mono HW.out.size))
  clear hb1
  go_wp2_with fail
  refine (B0.out _).mono ?_
  rintro e w2 ⟨rfl, hb2⟩
  have hy := (At.of_new _ 25 _).kept hb2
  have hlt := hy.lt
  have HW1 := Lib.hid (allocThen hb1'.out hb2)
  clear hb2 hb1' HW A0 B0
  obtain ⟨f, d0, d1, d2, d3, d4, d5, d6, d7, d8, d9, d10, d11⟩ := hy.cells12
  clear hy
  go_wp2_with fail
  rw [rounds_succ]
  clear f d0 d1 d2 d3 d4 d5 d6 d7 d8 d9 d10 d11 hlt
  obtain ⟨src1, dst1, seq1, ack1, syn1, ackOn1, fin1, rst1, win1, area1, data1, k1, A1, B1⟩ := P1
  go_wp2_with fail
  refine (A1.out _).mono ?_
  rintro e w1 ⟨rfl, hb1⟩
  have hb1' := Lib.hid (allocThen HW1.out hb1)
  clear hb1
  go_wp2_with fail
  refine (B1.out _).mono ?_
  rintro e w2 ⟨rfl, hb2⟩
  have hy := (At.of_new _ 25 _).kept hb2
  have hlt := hy.lt
  have HW2 := Lib.hid (allocThen hb1'.out hb2)
  clear hb2 hb1' HW1 A1 B1
  obtain ⟨f, d0, d1, d2, d3, d4, d5, d6, d7, d8, d9, d10, d11⟩ := hy.cells12
  clear hy
  go_wp2_with fail
  rw [rounds_succ]
  clear f d0 d1 d2 d3 d4 d5 d6 d7 d8 d9 d10 d11 hlt
  obtain ⟨src2, dst2, seq2, ack2, syn2, ackOn2, fin2, rst2, win2, area2, data2, k2, A2, B2⟩ := P2
  go_wp2_with fail
  refine (A2.out _).mono ?_
  rintro e w1 ⟨rfl, hb1⟩
  have hb1' := Lib.hid (allocThen HW2.out hb1)
  clear hb1
  go_wp2_with fail
  refine (B2.out _).mono ?_
  rintro e w2 ⟨rfl, hb2⟩
  have hy := (At.of_new _ 25 _).kept hb2
  have hlt := hy.lt
  have HW3 := Lib.hid (allocThen hb1'.out hb2)
  clear hb2 hb1' HW2 A2 B2
  obtain ⟨f, d0, d1, d2, d3, d4, d5, d6, d7, d8, d9, d10, d11⟩ := hy.cells12
  clear hy
  go_wp2_with fail
  rw [rounds_succ]
  clear f d0 d1 d2 d3 d4 d5 d6 d7 d8 d9 d10 d11 hlt
  obtain ⟨src3, dst3, seq3, ack3, syn3, ackOn3, fin3, rst3, win3, area3, data3, k3, A3, B3⟩ := P3
  go_wp2_with fail
  refine (A3.out _).mono ?_
  rintro e w1 ⟨rfl, hb1⟩
  have hb1' := Lib.hid (allocThen HW3.out hb1)
  clear hb1
  go_wp2_with fail
  refine (B3.out _).mono ?_
  rintro e w2 ⟨rfl, hb2⟩
  have hy := (At.of_new _ 25 _).kept hb2
  have hlt := hy.lt
  have HW4 := Lib.hid (allocThen hb1'.out hb2)
  clear hb2 hb1' HW3 A3 B3
  obtain ⟨f, d0, d1, d2, d3, d4, d5, d6, d7, d8, d9, d10, d11⟩ := hy.cells12
  clear hy
  go_wp2_with fail
  clear f d0 d1 d2 d3 d4 d5 d6 d7 d8 d9 d10 d11 hlt
  rw [rounds_succ]
  go_wp2_with fail
  refine (works_any _).mono ?_
  rintro e w4 ⟨rfl, hb4⟩
  go_wp2_with fail
  go_ret
  exact ⟨rfl, allocThen HW4.out hb4⟩
end Go.Proofs.Ytdbakdkhjijjhaa
