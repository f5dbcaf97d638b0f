/- HeadBack walked. -/
import Derived.Test.YtdbakdkhjijjhaaPz
import Derived.Test.YtdbakdkhjijjhaaSh
import Derived.Deep.QuietTactic
import Derived.BigQuiet
namespace Go.Proofs.Ytdbakdkhjijjhaa
open Go.RowKit Pl

def LayTo (path : Int) (src dst seq ack : Nat) (syn ackOn fin rst : Bool) (win : Nat) (area data t : ByteArray) (k : Int) : Prop :=
  ∀ w, Calls Try.prog 9 #[.agg #[.int .i64 path, .int .u16 src, .int .u16 dst, .int .u32 seq, .int .u32 ack, .bool syn, .bool ackOn, .bool fin, .bool rst, .int .u16 win, .string area, .string data]] w fun e w' => e = .returned (.tuple #[.string t, .int .i64 k]) ∧ Below w.heap.size w w'
def ParseTo (t : ByteArray) (src dst seq ack : Nat) (syn ackOn fin rst : Bool) (win : Nat) (area data : ByteArray) (k : Int) : Prop :=
  ∀ w, Calls Try.prog 14 #[.string t] w fun e w' => e = .returned (.tuple #[.agg #[.int .i64 0, .int .u16 src, .int .u16 dst, .int .u32 seq, .int .u32 ack, .bool syn, .bool ackOn, .bool fin, .bool rst, .int .u16 win, .string area, .string data], .int .i64 k]) ∧ Below w.heap.size w w'
/-- What is laid is parsed back, or it is none. -/
def LayBack (path : Int) (src dst seq ack : Nat) (syn ackOn fin rst : Bool) (win : Nat) (area data : ByteArray) : Prop :=
  (LayTo path src dst seq ack syn ackOn fin rst win area data ⟨#[]⟩ 6 ∧
    (40 < area.size ∨ (area.size ≤ 40 ∧ area.size % 4 ≠ 0) ∨ (area.size ≤ 40 ∧ area.size % 4 = 0 ∧ 1024 < data.size))) ∨
  ∃ t : ByteArray, t.size = 20 + (area.size + data.size) ∧ area.size ≤ 40 ∧ data.size ≤ 1024 ∧ LayTo path src dst seq ack syn ackOn fin rst win area data t 0 ∧ ParseTo t src dst seq ack syn ackOn fin rst win area data 0
theorem lay_back (path : Int) (src dst seq ack : Nat) (syn ackOn fin rst : Bool) (win : Nat) (area data : ByteArray)
    (h0 : src < 65536) (h1 : dst < 65536) (h2 : seq < 4294967296) (h3 : ack < 4294967296) (h4 : win < 65536) (hs1 : area.size ≤ 9223372036854775807) (hs2 : data.size ≤ 9223372036854775807) :
    LayBack path src dst seq ack syn ackOn fin rst win area data := by
  by_cases h : 40 < area.size ∨ area.size % 4 ≠ 0 ∨ 1024 < data.size
  · exact .inl ⟨fun w => lay_bad path src dst seq ack syn ackOn fin rst win area data w hs1 hs2 h, by omega⟩
  · refine .inr ⟨segS src dst seq ack syn ackOn fin rst win area data, segS_size _ _ _ _ _ _ _ _ _ _ _, by omega, by omega, fun w => lay_good path src dst seq ack syn ackOn fin rst win area data w h0 h1 h2 h3 h4 (by omega) (by omega) (by omega), fun w => ?_⟩
    have := parse_good (segS src dst seq ack syn ackOn fin rst win area data) w (by rw [segS_size]; omega) (segS_right _ _ _ _ _ _ _ _ _ _ _ (by omega) (by omega) (by omega))
    rw [segS_parse _ _ _ _ _ _ _ _ _ _ _ h0 h1 h2 h3 h4 (by omega) (by omega)] at this
    exact this

/-- What any bytes are parsed as is none, or is laid as these bytes, but for a sum of 65535. -/
def BackTo (raw : ByteArray) : Prop :=
  (∃ k : Nat, k ≠ 0 ∧ ParseTo raw 0 0 0 0 false false false false 0 ⟨#[]⟩ ⟨#[]⟩ k) ∨
  ∃ (src dst seq ack : Nat) (syn ackOn fin rst : Bool) (win : Nat) (area data t : ByteArray), ParseTo raw src dst seq ack syn ackOn fin rst win area data 0 ∧ LayTo 0 src dst seq ack syn ackOn fin rst win area data t 0 ∧ t.size = raw.size ∧ 20 ≤ t.size ∧
    (t = raw ∨ (t ≠ raw ∧ raw.extract 16 18 = ⟨#[255, 255]⟩ ∧ t.extract 16 18 = ⟨#[0, 0]⟩ ∧ t.extract 0 16 = raw.extract 0 16 ∧ t.extract 18 t.size = raw.extract 18 raw.size))
theorem cut_two (s : ByteArray) (x y : UInt8) (h : (s.data.toList.drop 16).take 2 = [x, y]) : s.extract 16 18 = ⟨#[x, y]⟩ := by
  apply ba_ext
  rw [cut_data, cutL, List.drop_take]
  exact h
theorem back_to (raw : ByteArray) (hr : raw.size ≤ 9223372036854775807) : BackTo raw := by
  by_cases h : rightL raw.data.toList = 0
  · obtain ⟨src, dst, seq, ack, syn, ackOn, fin, rst, win, area, data, hp, h0, h1, h2, h3, h4, h5, h6, h7, h8, hor⟩ := parse_back raw h
    refine .inr ⟨src, dst, seq, ack, syn, ackOn, fin, rst, win, area, data, segS src dst seq ack syn ackOn fin rst win area data, fun w => ?_, fun w => lay_good 0 src dst seq ack syn ackOn fin rst win area data w h0 h1 h2 h3 h4 h5 h6 h7, by rw [segS_size]; exact h8.symm, by rw [segS_size]; omega, ?_⟩
    · have := parse_good raw w hr h
      rw [hp] at this
      exact this
    · by_cases e : segS src dst seq ack syn ackOn fin rst win area data = raw
      · exact .inl e
      · rcases hor with hor | ⟨k1, k2, k3, k4⟩
        · exact absurd hor e
        · refine .inr ⟨e, cut_two _ _ _ k1, cut_two _ _ _ k2, ba_ext ?_, ba_ext ?_⟩
          · rw [cut_data, cut_data, cutL, cutL, k3]
          · rw [cut_data, cut_data, cutL, cutL, ← bytes_len, ← bytes_len, List.take_length, List.take_length, k4]
  · exact .inl ⟨_, h, fun w => parse_bad raw w hr h⟩

set_option maxRecDepth 20000 in
set_option maxHeartbeats 4000000 in
theorem headBack_any (sa sd sl : Nat) (path : Int) (src dst seq ack : Nat) (syn ackOn fin rst : Bool) (win : Nat) (area data raw : ByteArray) (w : World)
    (g0 : sa < 256) (g1 : sd < 65536) (g2 : sl < 256)
    (h0 : src < 65536) (h1 : dst < 65536) (h2 : seq < 4294967296) (h3 : ack < 4294967296) (h4 : win < 65536) (hs1 : area.size ≤ 9223372036854775807) (hs2 : data.size ≤ 9223372036854775807) (hr : raw.size ≤ 9223372036854775807) :
    Calls Try.prog 5 #[.agg (segC path src dst seq ack syn ackOn fin rst win area data).toArray, .agg #[.int .u8 sa, .int .u16 sd, .int .u8 sl], .string raw] w fun e w' =>
      e = .returned (.bool true) ∧ Below w.heap.size w w' := by
  have HF : Hid (∀ w, Calls Try.prog 8 #[.agg #[.int .u8 sa, .int .u16 sd, .int .u8 sl], .agg (segC path src dst seq ack syn ackOn fin rst win area data).toArray] w fun e w' =>
      e = .returned (.agg (segC path src dst seq ack syn ackOn fin rst win (fillA sa sl) (fillD sd sl)).toArray) ∧ Below w.heap.size w w') := fun w => filled_any sa sd sl path src dst seq ack syn ackOn fin rst win area data w g0 g1 g2
  have z1 := fillA_size sa sl
  have z2 := fillD_size sd sl
  obtain ⟨a', ea⟩ : ∃ a, fillA sa sl = a := ⟨_, rfl⟩
  obtain ⟨d', ed⟩ : ∃ d, fillD sd sl = d := ⟨_, rfl⟩
  rw [ea, ed] at HF
  rw [ea] at z1
  rw [ed] at z2
  clear ea ed
  have B0 := lay_back path src dst seq ack syn ackOn fin rst win area data h0 h1 h2 h3 h4 hs1 hs2
  have B1 := lay_back path src dst seq ack syn ackOn fin rst win a' d' h0 h1 h2 h3 h4 (by omega) (by omega)
  have B2 := back_to raw hr
  clear z1 z2 h0 h1 h2 h3 h4 g0 g1 g2 hs1 hs2 hr
  unfold segC
  unfold segC at HF
  go_enter Try.func5, Try.ntmps5
  go_wp2_with fail
  have hS : Sh w ((w.alloc (.cells #[.int .i64 path, .int .u16 src, .int .u16 dst, .int .u32 seq, .int .u32 ack, .bool syn, .bool ackOn, .bool fin, .bool rst, .int .u16 win, .string area, .string data] 25)).alloc (.cells #[.int .u8 sa, .int .u16 sd, .int .u8 sl] 27)) [.int .i64 path, .int .u16 src, .int .u16 dst, .int .u32 seq, .int .u32 ack, .bool syn, .bool ackOn, .bool fin, .bool rst, .int .u16 win, .string area, .string data] [.int .u8 sa, .int .u16 sd, .int .u8 sl] :=
    ⟨(At.of_new w _ _).alloc _, At.new1 (At.of_new _ _ _) (by simp), ((Below.refl _ w).alloc (Nat.le_refl _) _).alloc (by simp) _⟩
  refine (works_any _).mono ?_
  rintro e w1 ⟨rfl, hb1⟩
  have hS1 := hS.kept hb1
  clear hS hb1
  go_upto_region 3 with fail
  refine wp_region_all (fun w' => Sh w w' [.int .i64 path, .int .u16 src, .int .u16 dst, .int .u32 seq, .int .u32 ack, .bool syn, .bool ackOn, .bool fin, .bool rst, .int .u16 win, .string area, .string data] [.int .u8 sa, .int .u16 sd, .int .u8 sl]) (by kernel_rfl) (by kernel_rfl) hS1.drew ?_
  clear hS1
  iterate 3
    refine wpQuiet_val (v := ?_) (by rfl) (fun w' hw' => ?_) ?_
    rotate_left
    · have hcx := hw'.1.cell
      have hcy := hw'.2.1.cell
      clear hw'
      go_simp
      exact rfl
    simp only [Act.put, List.setIfInBounds_toArray, List.set_cons_zero, List.set_cons_succ]
  refine wpQuiet_val (v := .agg #[.int .i64 path, .int .u16 src, .int .u16 dst, .int .u32 seq, .int .u32 ack, .bool syn, .bool ackOn, .bool fin, .bool rst, .int .u16 win, .string a', .string d']) (by rfl) (fun w' hw' => ?_) ?_
  · go_simp
    refine (HF.out w').mono ?_
    rintro e w2 ⟨rfl, hb2⟩
    exact ⟨rfl, hw'.kept hb2⟩
  simp only [Act.put, List.setIfInBounds_toArray, List.set_cons_zero, List.set_cons_succ]
  iterate 2
    refine wpQuiet_val (v := ?_) (by rfl) (fun w' hw' => ?_) ?_
    rotate_left
    · clear hw'
      go_simp
      exact rfl
    simp only [Act.put, List.setIfInBounds_toArray, List.set_cons_zero, List.set_cons_succ]
  refine wpQuiet_nil ?_
  intro w' hw'
  have HW := Lib.hid hw'.2.2
  clear hw' HF
  have j0 : ∀ (x0 x1 x2 x3 x4 x5 x6 x7 x8 x9 x10 x11 x12 x13 x14 x15 x16 x17 x18 x19 x20 x21 x22 x23 : Value) (w : World), (Instr.index 29 (.agg #[x0, x1, x2, x3, x4, x5, x6, x7, x8, x9, x10, x11, x12, x13, x14, x15, x16, x17, x18, x19, x20, x21, x22, x23]) (.int .i64 0)).run Try.prog w = .ok (.agg #[x0, x1, x2, x3, x4, x5, x6, x7, x8, x9, x10, x11]) w := fun _ _ _ _ _ _ _ _ _ _ _ _ _ _ _ _ _ _ _ _ _ _ _ _ _ => by kernel_rfl
  have j1 : ∀ (x0 x1 x2 x3 x4 x5 x6 x7 x8 x9 x10 x11 x12 x13 x14 x15 x16 x17 x18 x19 x20 x21 x22 x23 : Value) (w : World), (Instr.index 29 (.agg #[x0, x1, x2, x3, x4, x5, x6, x7, x8, x9, x10, x11, x12, x13, x14, x15, x16, x17, x18, x19, x20, x21, x22, x23]) (.int .i64 1)).run Try.prog w = .ok (.agg #[x12, x13, x14, x15, x16, x17, x18, x19, x20, x21, x22, x23]) w := fun _ _ _ _ _ _ _ _ _ _ _ _ _ _ _ _ _ _ _ _ _ _ _ _ _ => by kernel_rfl
  go_wp2
  go_loopw [24] (fun i wr => ∃ k : Nat, k ≤ 2 ∧ i = .int .i64 k ∧ Hid (Below w.heap.size w wr)) (fun i _ => 2 - (intOf i).toNat)
  case atStart => exact ⟨0, by omega, rfl, HW⟩
  case round =>
    clear HW w'
    obtain ⟨k, hk, rfl, HW⟩ := hrel
    obtain rfl | rfl | rfl : k = 0 ∨ k = 1 ∨ k = 2 := by omega
    · clear B1 hk B2
      rcases B0 with ⟨HL, c1 | ⟨c1, c2⟩ | ⟨c1, c2, c3⟩⟩ | ⟨t, c1, c2, c3, HL, HP⟩
      · have e1 : decide ((area.size : Int) ≤ 40) = false := by simp; omega
        go_wp2_with fail
        refine (HL _).mono ?_
        rintro e w2 ⟨rfl, hb2⟩
        have hy := (At.of_new _ 25 _).kept hb2
        have N1 := Lib.hid (allocThen HW.out hb2)
        clear hb2
        obtain ⟨f, d0, d1, d2, d3, d4, d5, d6, d7, d8, d9, d10, d11⟩ := hy.cells12
        clear hy
        go_wp2_with fail
        exact ⟨⟨1, by omega, rfl, N1⟩, by simp [intOf]⟩
      · have e1 : decide ((area.size : Int) ≤ 40) = true := by simp; omega
        have e2 : ((area.size : Int) % 4 == 0) = false := by simp; omega
        go_wp2_with fail
        refine (HL _).mono ?_
        rintro e w2 ⟨rfl, hb2⟩
        have hy := (At.of_new _ 25 _).kept hb2
        have N1 := Lib.hid (allocThen HW.out hb2)
        clear hb2
        obtain ⟨f, d0, d1, d2, d3, d4, d5, d6, d7, d8, d9, d10, d11⟩ := hy.cells12
        clear hy
        go_wp2_with fail
        exact ⟨⟨1, by omega, rfl, N1⟩, by simp [intOf]⟩
      · have e1 : decide ((area.size : Int) ≤ 40) = true := by simp; omega
        have e2 : ((area.size : Int) % 4 == 0) = true := by simp; omega
        have e3 : decide ((data.size : Int) ≤ 1024) = false := by simp; omega
        go_wp2_with fail
        refine (HL _).mono ?_
        rintro e w2 ⟨rfl, hb2⟩
        have hy := (At.of_new _ 25 _).kept hb2
        have N1 := Lib.hid (allocThen HW.out hb2)
        clear hb2
        obtain ⟨f, d0, d1, d2, d3, d4, d5, d6, d7, d8, d9, d10, d11⟩ := hy.cells12
        clear hy
        go_wp2_with fail
        exact ⟨⟨1, by omega, rfl, N1⟩, by simp [intOf]⟩
      · have e1 : ((t.size : Int) != 20 + (area.size : Int) + (data.size : Int)) = false := by rw [bne_eq_false_iff_eq]; omega
        clear c1
        go_wp2_with fail
        refine (HL _).mono ?_
        rintro e w2 ⟨rfl, hb2⟩
        have hy := (At.of_new _ 25 _).kept hb2
        have N1 := Lib.hid (allocThen HW.out hb2)
        clear hb2
        go_wp2_with fail
        refine (HP _).mono ?_
        rintro e w3 ⟨rfl, hb3⟩
        have hy3 := hy.kept hb3
        have N2 := Lib.hid (N1.out.trans (hb3.mono N1.out.size))
        have hlt := hy3.lt
        clear hb3 hy
        obtain ⟨f, d0, d1, d2, d3, d4, d5, d6, d7, d8, d9, d10, d11⟩ := hy3.cells12
        clear hy3
        go_wp2_with fail
        have N3 := N2.out.setCell (p := ⟨wr.heap.size, 0, none⟩) HW.out.size (.int .i64 0)
        exact ⟨⟨1, by omega, rfl, N3.alloc N3.size _⟩, by simp [intOf]⟩
    · clear B0 hk B2
      rcases B1 with ⟨HL, c1 | ⟨c1, c2⟩ | ⟨c1, c2, c3⟩⟩ | ⟨t, c1, c2, c3, HL, HP⟩
      · have e1 : decide ((a'.size : Int) ≤ 40) = false := by simp; omega
        go_wp2_with fail
        refine (HL _).mono ?_
        rintro e w2 ⟨rfl, hb2⟩
        have hy := (At.of_new _ 25 _).kept hb2
        have N1 := Lib.hid (allocThen HW.out hb2)
        clear hb2
        obtain ⟨f, d0, d1, d2, d3, d4, d5, d6, d7, d8, d9, d10, d11⟩ := hy.cells12
        clear hy
        go_wp2_with fail
        exact ⟨⟨2, by omega, rfl, N1⟩, by simp [intOf]⟩
      · have e1 : decide ((a'.size : Int) ≤ 40) = true := by simp; omega
        have e2 : ((a'.size : Int) % 4 == 0) = false := by simp; omega
        go_wp2_with fail
        refine (HL _).mono ?_
        rintro e w2 ⟨rfl, hb2⟩
        have hy := (At.of_new _ 25 _).kept hb2
        have N1 := Lib.hid (allocThen HW.out hb2)
        clear hb2
        obtain ⟨f, d0, d1, d2, d3, d4, d5, d6, d7, d8, d9, d10, d11⟩ := hy.cells12
        clear hy
        go_wp2_with fail
        exact ⟨⟨2, by omega, rfl, N1⟩, by simp [intOf]⟩
      · have e1 : decide ((a'.size : Int) ≤ 40) = true := by simp; omega
        have e2 : ((a'.size : Int) % 4 == 0) = true := by simp; omega
        have e3 : decide ((d'.size : Int) ≤ 1024) = false := by simp; omega
        go_wp2_with fail
        refine (HL _).mono ?_
        rintro e w2 ⟨rfl, hb2⟩
        have hy := (At.of_new _ 25 _).kept hb2
        have N1 := Lib.hid (allocThen HW.out hb2)
        clear hb2
        obtain ⟨f, d0, d1, d2, d3, d4, d5, d6, d7, d8, d9, d10, d11⟩ := hy.cells12
        clear hy
        go_wp2_with fail
        exact ⟨⟨2, by omega, rfl, N1⟩, by simp [intOf]⟩
      · have e1 : ((t.size : Int) != 20 + (a'.size : Int) + (d'.size : Int)) = false := by rw [bne_eq_false_iff_eq]; omega
        clear c1
        go_wp2_with fail
        refine (HL _).mono ?_
        rintro e w2 ⟨rfl, hb2⟩
        have hy := (At.of_new _ 25 _).kept hb2
        have N1 := Lib.hid (allocThen HW.out hb2)
        clear hb2
        go_wp2_with fail
        refine (HP _).mono ?_
        rintro e w3 ⟨rfl, hb3⟩
        have hy3 := hy.kept hb3
        have N2 := Lib.hid (N1.out.trans (hb3.mono N1.out.size))
        have hlt := hy3.lt
        clear hb3 hy
        obtain ⟨f, d0, d1, d2, d3, d4, d5, d6, d7, d8, d9, d10, d11⟩ := hy3.cells12
        clear hy3
        go_wp2_with fail
        have N3 := N2.out.setCell (p := ⟨wr.heap.size, 0, none⟩) HW.out.size (.int .i64 0)
        exact ⟨⟨2, by omega, rfl, N3.alloc N3.size _⟩, by simp [intOf]⟩
    · clear B0 B1 hk
      rcases B2 with ⟨k, hk, HP⟩ | ⟨src2, dst2, seq2, ack2, syn2, ackOn2, fin2, rst2, win2, area2, data2, t, HP, HL, zt, z20, ht⟩
      · have k1 : ((k : Int) == 0) = false := by simp; omega
        have k2 : ((k : Int) != 0) = true := by simp; omega
        clear hk
        go_wp2_with fail
        refine (HP _).mono ?_
        rintro e w2 ⟨rfl, hb2⟩
        have N1 := Lib.hid (HW.out.trans (hb2.mono HW.out.size))
        clear hb2
        go_wp2_with fail
        go_ret
        exact ⟨rfl, N1.out.alloc N1.out.size _⟩
      · have e1 : ((t.size : Int) != (raw.size : Int)) = false := by rw [bne_eq_false_iff_eq]; omega
        have e2 : decide ((t.size : Int) < 18) = false := by simp; omega
        have i1 : (18 : Int) ≤ t.size := by omega
        have i2 : (18 : Int) ≤ raw.size := by omega
        clear zt z20
        go_wp2_with fail
        refine (HP _).mono ?_
        rintro e w2 ⟨rfl, hb2⟩
        have N1 := Lib.hid (HW.out.trans (hb2.mono HW.out.size))
        clear hb2
        go_wp2_with fail
        refine (HL _).mono ?_
        rintro e w3 ⟨rfl, hb3⟩
        have N2 := Lib.hid (allocThen N1.out hb3)
        clear hb3
        rcases ht with rfl | ⟨h0, h1, h2, h3, h4⟩
        · go_upto_region 21 with fail
          go_quiet (fail)
          go_wp2
          go_ret
          exact ⟨rfl, below_dn N2.out _⟩
        · have q0 : (t.toList == raw.toList) = false := by
            rw [beq_eq_false_iff_ne]
            exact fun h => h0 (ba_ext (by rw [← ByteArray.toList_eq, ← ByteArray.toList_eq, h]))
          have q1 : (raw.extract 16 18).toList = [255, 255] := by rw [h1, ByteArray.toList_eq]
          have q2 : (t.extract 16 18).toList = [0, 0] := by rw [h2, ByteArray.toList_eq]
          have q3 : (t.extract 0 16).toList = (raw.extract 0 16).toList := by rw [h3]
          have q4 : (t.extract 18 t.size).toList = (raw.extract 18 raw.size).toList := by rw [h4]
          clear h0 h1 h2 h3 h4
          go_upto_region 21 with fail
          go_quiet (fail)
          go_wp2
          go_ret
          exact ⟨rfl, below_dn N2.out _⟩
end Go.Proofs.Ytdbakdkhjijjhaa
