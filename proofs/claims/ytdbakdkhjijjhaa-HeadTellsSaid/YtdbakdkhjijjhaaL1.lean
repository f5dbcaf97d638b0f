/- HeadLays walked. -/
import Derived.Test.YtdbakdkhjijjhaaWk
namespace Go.Proofs.Ytdbakdkhjijjhaa
open Go.RowKit Pl

/-- What both lay: the same, whatever the segment. -/
theorem both_lay (path : Int) (src dst seq ack : Nat) (syn ackOn fin rst : Bool) (win : Nat) (area data : ByteArray)
    (h0 : src < 65536) (h1 : dst < 65536) (h2 : seq < 4294967296) (h3 : ack < 4294967296) (h4 : win < 65536) (hs1 : area.size ≤ 9223372036854775807) (hs2 : data.size ≤ 9223372036854775807) :
    ∃ (t : ByteArray) (k : Nat), Hid (∀ w, Calls Try.prog 9 #[.agg (segC path src dst seq ack syn ackOn fin rst win area data).toArray] w fun e w' => e = .returned (.tuple #[.string t, .int .i64 k]) ∧ Below w.heap.size w w') ∧
      Hid (∀ w, Calls Try.prog 10 #[.agg (segC path src dst seq ack syn ackOn fin rst win area data).toArray] w fun e w' => e = .returned (.tuple #[.string t, .int .i64 k]) ∧ Below w.heap.size w w') := by
  by_cases h : 40 < area.size ∨ area.size % 4 ≠ 0 ∨ 1024 < data.size
  · exact ⟨⟨#[]⟩, 6, fun w => lay_bad path src dst seq ack syn ackOn fin rst win area data w hs1 hs2 h, fun w => rlay_bad path src dst seq ack syn ackOn fin rst win area data w hs1 hs2 h⟩
  · exact ⟨_, 0, fun w => lay_good path src dst seq ack syn ackOn fin rst win area data w h0 h1 h2 h3 h4 (by omega) (by omega) (by omega), fun w => rlay_good path src dst seq ack syn ackOn fin rst win area data w h0 h1 h2 h3 h4 (by omega) (by omega) (by omega)⟩

theorem allocThen {a w w1 : World} {o : Obj} (h : Below a.heap.size a w) (hb : Below (w.alloc o).heap.size (w.alloc o) w1) : Below a.heap.size a w1 :=
  (h.alloc h.size o).trans (hb.mono (h.alloc h.size o).size)
/-- Where the call stands: the segment, the shape, all else as it was. -/
def Sh (w W : World) (cs ds : List Value) : Prop := At W w.heap.size 25 cs ∧ At W (w.heap.size + 1) 27 ds ∧ Below w.heap.size w W
theorem Sh.drew {w W : World} {cs ds : List Value} (h : Sh w W cs ds) : Sh w W.drew cs ds := ⟨h.1, h.2.1, h.2.2.drew⟩
theorem Sh.kept {w W W' : World} {cs ds : List Value} (h : Sh w W cs ds) (hb : Below W.heap.size W W') : Sh w W' cs ds := ⟨h.1.kept hb, h.2.1.kept hb, h.2.2.trans (hb.mono h.2.2.size)⟩

set_option maxHeartbeats 4000000 in
theorem headLays_any (sa sd sl : Nat) (path : Int) (src dst seq ack : Nat) (syn ackOn fin rst : Bool) (win : Nat) (area data : ByteArray) (w : World)
    (g0 : sa < 256) (g1 : sd < 65536) (g2 : sl < 256)
    (h0 : src < 65536) (h1 : dst < 65536) (h2 : seq < 4294967296) (h3 : ack < 4294967296) (h4 : win < 65536) (hs1 : area.size ≤ 9223372036854775807) (hs2 : data.size ≤ 9223372036854775807) :
    Calls Try.prog 3 #[.agg (segC path src dst seq ack syn ackOn fin rst win area data).toArray, .agg #[.int .u8 sa, .int .u16 sd, .int .u8 sl]] w fun e w' =>
      e = .returned (.bool true) ∧ Below w.heap.size w w' := by
  have HF : Hid (∀ w, Calls Try.prog 8 #[.agg #[.int .u8 sa, .int .u16 sd, .int .u8 sl], .agg (segC path src dst seq ack syn ackOn fin rst win area data).toArray] w fun e w' =>
      e = .returned (.agg (segC path src dst seq ack syn ackOn fin rst win (fillA sa sl) (fillD sd sl)).toArray) ∧ Below w.heap.size w w') := fun w => filled_any sa sd sl path src dst seq ack syn ackOn fin rst win area data w g0 g1 g2
  have z1 := fillA_size sa sl
  have z2 := fillD_size sd sl
  obtain ⟨a', ea⟩ : ∃ a, fillA sa sl = a := ⟨_, rfl⟩
  obtain ⟨d', ed⟩ : ∃ d, fillD sd sl = d := ⟨_, rfl⟩
  rw [ea, ed] at HF
  rw [ea] at z1
  rw [ed] at z2
  clear ea ed
  have hs3 : a'.size ≤ 9223372036854775807 := by omega
  have hs4 : d'.size ≤ 9223372036854775807 := by omega
  obtain ⟨t0, k0, A0, B0⟩ := both_lay path src dst seq ack syn ackOn fin rst win area data h0 h1 h2 h3 h4 hs1 hs2
  obtain ⟨t1, k1, A1, B1⟩ := both_lay path src dst seq ack syn ackOn fin rst win a' d' h0 h1 h2 h3 h4 hs3 hs4
  clear z1 z2 h0 h1 h2 h3 h4 hs1 hs3 g0 g1 g2
  unfold segC
  go_enter Try.func3, Try.ntmps3
  go_upto_region 1 with fail
  have hS : Sh w ((w.alloc (.cells #[.int .i64 path, .int .u16 src, .int .u16 dst, .int .u32 seq, .int .u32 ack, .bool syn, .bool ackOn, .bool fin, .bool rst, .int .u16 win, .string area, .string data] 25)).alloc (.cells #[.int .u8 sa, .int .u16 sd, .int .u8 sl] 27)) (segC path src dst seq ack syn ackOn fin rst win area data) [.int .u8 sa, .int .u16 sd, .int .u8 sl] :=
    ⟨(At.of_new w _ _).alloc _, At.new1 (At.of_new _ _ _) (by simp), ((Below.refl _ w).alloc (Nat.le_refl _) _).alloc (by simp) _⟩
  refine wp_region_all (fun w' => Sh w w' (segC path src dst seq ack syn ackOn fin rst win area data) [.int .u8 sa, .int .u16 sd, .int .u8 sl]) (by kernel_rfl) (by kernel_rfl) hS.drew ?_
  clear hS
  iterate 3
    refine wpQuiet_val (v := ?_) (by rfl) (fun w' hw' => ?_) ?_
    rotate_left
    · have hcx := hw'.1.cell
      have hcy := hw'.2.1.cell
      unfold segC at hcx
      clear hw'
      go_simp
      exact rfl
    simp only [Act.put, List.setIfInBounds_toArray, List.set_cons_zero, List.set_cons_succ]
  refine wpQuiet_val (v := .agg #[.int .i64 path, .int .u16 src, .int .u16 dst, .int .u32 seq, .int .u32 ack, .bool syn, .bool ackOn, .bool fin, .bool rst, .int .u16 win, .string a', .string d']) (by rfl) (fun w' hw' => ?_) ?_
  · go_simp
    refine (HF.out w').mono ?_
    rintro e w2 ⟨rfl, hb2⟩
    exact ⟨rfl, hw'.kept hb2⟩
  simp only [Act.put, List.setIfInBounds_toArray, List.set_cons_zero, List.set_cons_succ]
  iterate 2
    refine wpQuiet_val (v := ?_) (by rfl) (fun w' hw' => ?_) ?_
    rotate_left
    · clear hw'
      go_simp
      exact rfl
    simp only [Act.put, List.setIfInBounds_toArray, List.set_cons_zero, List.set_cons_succ]
  refine wpQuiet_nil ?_
  intro w' hw'
  have HW := Lib.hid hw'.2.2
  clear hw'
  have j0 : ∀ (x0 x1 x2 x3 x4 x5 x6 x7 x8 x9 x10 x11 x12 x13 x14 x15 x16 x17 x18 x19 x20 x21 x22 x23 : Value) (w : World), (Instr.index 29 (.agg #[x0, x1, x2, x3, x4, x5, x6, x7, x8, x9, x10, x11, x12, x13, x14, x15, x16, x17, x18, x19, x20, x21, x22, x23]) (.int .i64 0)).run Try.prog w = .ok (.agg #[x0, x1, x2, x3, x4, x5, x6, x7, x8, x9, x10, x11]) w := fun _ _ _ _ _ _ _ _ _ _ _ _ _ _ _ _ _ _ _ _ _ _ _ _ _ => by kernel_rfl
  have j1 : ∀ (x0 x1 x2 x3 x4 x5 x6 x7 x8 x9 x10 x11 x12 x13 x14 x15 x16 x17 x18 x19 x20 x21 x22 x23 : Value) (w : World), (Instr.index 29 (.agg #[x0, x1, x2, x3, x4, x5, x6, x7, x8, x9, x10, x11, x12, x13, x14, x15, x16, x17, x18, x19, x20, x21, x22, x23]) (.int .i64 1)).run Try.prog w = .ok (.agg #[x12, x13, x14, x15, x16, x17, x18, x19, x20, x21, x22, x23]) w := fun _ _ _ _ _ _ _ _ _ _ _ _ _ _ _ _ _ _ _ _ _ _ _ _ _ => by kernel_rfl
  obtain ⟨y1, e1⟩ : ∃ z, IntKind.i64.wrap ((data.size : Int) + 1) = z := ⟨_, rfl⟩
  obtain ⟨y2, e2⟩ : ∃ z, IntKind.i64.wrap (y1 + 1) = z := ⟨_, rfl⟩
  obtain ⟨y3, e3⟩ : ∃ z, IntKind.i64.wrap ((d'.size : Int) + 1) = z := ⟨_, rfl⟩
  obtain ⟨y4, e4⟩ : ∃ z, IntKind.i64.wrap (y3 + 1) = z := ⟨_, rfl⟩
  cases syn <;> cases fin
  all_goals
    go_wp2
    refine wp_loop_rounds 3 ?_
    rw [rounds_succ]
    go_wp2_with fail
    refine (A0.out _).mono ?_
    rintro e w1 ⟨rfl, hb1⟩
    have hy1 := (At.of_new _ 25 _).kept hb1
    have N1 := Lib.hid (allocThen HW.out hb1)
    clear hb1
    obtain ⟨f, d0, d1, d2, d3, d4, d5, d6, d7, d8, d9, d10, d11⟩ := hy1.cells12
    go_wp2_with fail
    refine (B0.out _).mono ?_
    rintro e w2 ⟨rfl, hb2⟩
    have hy2 := hy1.kept hb2
    have N2 := Lib.hid (N1.out.trans (hb2.mono N1.out.size))
    clear d0 d1 d2 d3 d4 d5 d6 d7 d8 d9 d10 d11 f hy1 hb2
    obtain ⟨f, d0, d1, d2, d3, d4, d5, d6, d7, d8, d9, d10, d11⟩ := hy2.cells12
    go_wp2_with fail
    refine (long_any _ _ _ _ _ _ _ _ _ _ _ _ _).mono ?_
    simp only [longZ, e1, e2, e3, e4]
    rintro e w3 ⟨rfl, hb3⟩
    have N3 := Lib.hid (N2.out.trans (hb3.mono N2.out.size))
    clear d0 d1 d2 d3 d4 d5 d6 d7 d8 d9 d10 d11 f hy2 hb3 N1 N2 HW
    go_wp2_with fail
    have HW2 := Lib.hid N3.out
    clear N3
    rw [rounds_succ]
    go_wp2_with fail
    refine (A1.out _).mono ?_
    rintro e w1 ⟨rfl, hb1⟩
    have hy1 := (At.of_new _ 25 _).kept hb1
    have N1 := Lib.hid (allocThen HW2.out hb1)
    clear hb1
    obtain ⟨f, d0, d1, d2, d3, d4, d5, d6, d7, d8, d9, d10, d11⟩ := hy1.cells12
    go_wp2_with fail
    refine (B1.out _).mono ?_
    rintro e w2 ⟨rfl, hb2⟩
    have hy2 := hy1.kept hb2
    have N2 := Lib.hid (N1.out.trans (hb2.mono N1.out.size))
    clear d0 d1 d2 d3 d4 d5 d6 d7 d8 d9 d10 d11 f hy1 hb2
    obtain ⟨f, d0, d1, d2, d3, d4, d5, d6, d7, d8, d9, d10, d11⟩ := hy2.cells12
    go_wp2_with fail
    refine (long_any _ _ _ _ _ _ _ _ _ _ _ _ _).mono ?_
    simp only [longZ, e1, e2, e3, e4]
    rintro e w3 ⟨rfl, hb3⟩
    have N3 := Lib.hid (N2.out.trans (hb3.mono N2.out.size))
    clear d0 d1 d2 d3 d4 d5 d6 d7 d8 d9 d10 d11 f hy2 hb3 N1 N2 HW2
    go_wp2_with fail
    rw [rounds_succ]
    go_wp2_with fail
    refine (works_any _).mono ?_
    rintro e w4 ⟨rfl, hb4⟩
    go_wp2_with fail
    go_ret
    exact ⟨rfl, N3.out.trans (hb4.mono N3.out.size)⟩
end Go.Proofs.Ytdbakdkhjijjhaa
