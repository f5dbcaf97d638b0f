/- BoxTells, walked. -/
import Derived.Test.YtdkkfhlijapbeaaWt
import Derived.Test.YtdkkfhlijapbeaaRi
namespace Go.Proofs.Ytdkkfhlijapbeaa
open Go.RowKit Pl Go.Shelf
attribute [local go_sem ↓] Go.wp_at_zero Go.wp_at_succ

theorem seg_one (src dst seq ack : Nat) (syn ackOn fin rst : Bool) (win : Nat) (area data : ByteArray) :
    (#[.int .i64 0, .int .u16 src, .int .u16 dst, .int .u32 seq, .int .u32 ack, .bool syn, .bool ackOn, .bool fin, .bool rst, .int .u16 win, .string area, .string data] : Array Value).all (·.oneCell') = true := by
  refine all_oneCell_toArray (cs := [.int .i64 0, .int .u16 src, .int .u16 dst, .int .u32 seq, .int .u32 ack, .bool syn, .bool ackOn, .bool fin, .bool rst, .int .u16 win, .string area, .string data]) fun v hv => ?_
  simp only [List.mem_cons, List.mem_nil_iff, or_false] at hv
  rcases hv with rfl | rfl | rfl | rfl | rfl | rfl | rfl | rfl | rfl | rfl | rfl | rfl <;> rfl

set_option maxRecDepth 100000 in
set_option maxHeartbeats 8000000 in
theorem boxTells_any (d e : Dr) (at_ by_ : Int) (w : World) (hd : d.Ok w) (he : e.Ok w) (k2 : IntKind.i64.has at_) :
    Calls Try.prog 3 #[d.v, e.v, .int .i64 at_, .int .i64 by_] w fun e w' => e = .returned (.bool true) ∧ Below w.heap.size w w' := by
  have hDR : ∀ w', Below w.heap.size w w' → Calls Try.prog 9 #[d.v] w' fun e w'' => e = .returned (drSeg d).v ∧ Below w'.heap.size w' w'' := fun w' hb => draft_any d w' (hd.kept hb)
  have hLD : ∀ w', Below w.heap.size w w' → Calls Try.prog 8 #[d.v] w' fun e w'' => e = .returned (.string (drSeg d).bytes) ∧ Below w'.heap.size w' w'' := fun w' hb => laid_draft d w' (hd.kept hb)
  have hER : ∀ w', Below w.heap.size w w' → Calls Try.prog 9 #[e.v] w' fun e' w'' => e' = .returned (drSeg e).v ∧ Below w'.heap.size w' w'' := fun w' hb => draft_any e w' (he.kept hb)
  have hLE : ∀ w', Below w.heap.size w w' → Calls Try.prog 8 #[e.v] w' fun e' w'' => e' = .returned (.string (drSeg e).bytes) ∧ Below w'.heap.size w' w'' := fun w' hb => laid_draft e w' (he.kept hb)
  obtain ⟨hxo, hx100⟩ := drSeg_ok d hd
  obtain ⟨hyo, _⟩ := drSeg_ok e he
  obtain ⟨kb, kn, kc, hkv⟩ := hd.form
  obtain ⟨mb, mn, mc, hmv⟩ := he.form
  obtain ⟨x, ex⟩ : ∃ x, drSeg d = x := ⟨_, rfl⟩
  obtain ⟨y, ey⟩ : ∃ x, drSeg e = x := ⟨_, rfl⟩
  rw [ex] at hDR hLD hxo hx100
  rw [ey] at hER hLE hyo
  have hss := ok_size x hxo
  have hts := ok_size y hyo
  obtain ⟨s, es⟩ : ∃ s, x.bytes = s := ⟨_, rfl⟩
  obtain ⟨t, et⟩ : ∃ s, y.bytes = s := ⟨_, rfl⟩
  rw [es] at hLD hss
  rw [et] at hLE hts
  have HDR := Lib.hid hDR
  have HLD := Lib.hid hLD
  have HER := Lib.hid hER
  have HLE := Lib.hid hLE
  clear hDR hLD hER hLE ex ey es et
  obtain ⟨src, dst, seq, ack, syn, ackOn, fin, rst, win, area, data⟩ := x
  obtain ⟨ysrc, ydst, yseq, yack, ysyn, yackOn, yfin, yrst, ywin, yarea, ydata⟩ := y
  simp only at hx100
  have hs2 : seq < 4294967296 := hxo.h2
  obtain ⟨sq, esq⟩ : ∃ n, (seq + data.size) % 4294967296 = n := ⟨_, rfl⟩
  have hbo : (⟨src, dst, sq, yack, ysyn, yackOn, yfin, yrst, ywin, yarea, ydata⟩ : Sg).Ok := ⟨hxo.h0, hxo.h1, by show sq < 4294967296; omega, hyo.h3, hyo.h4, hyo.h5, hyo.h6, hyo.h7⟩
  obtain ⟨beh, hbs, hLY⟩ : ∃ t : ByteArray, t.size ≤ 9223372036854775807 ∧ LayTo 10 ⟨src, dst, sq, yack, ysyn, yackOn, yfin, yrst, ywin, yarea, ydata⟩ t 0 := ⟨_, ok_size _ hbo, rlay_ok _ hbo⟩
  have HLY := Lib.hid hLY
  have wk : IntKind.u32.wrap (data.size : Int) = (data.size : Int) := IntWalk.u32_in _ (by omega)
  have hsq : IntKind.u32.wrap ((seq : Int) + (data.size : Int)) = (sq : Int) := by rw [← esq, IntKind.wrap_u32]; omega
  have HSQ := Lib.hid (And.intro hsq wk)
  have HAT := Lib.hid k2
  clear hLY hbo hxo hyo wk hsq esq k2
  have HSAME : Hid (∀ (s t : ByteArray) (a b : Int) (w : World), s.size ≤ 9223372036854775807 → t.size ≤ 9223372036854775807 → Calls Try.prog 11 #[.string s, .string t, .int .i64 a, .int .i64 b] w fun e w' => e = .returned (.bool true) ∧ Below w.heap.size w w') := fun s t a b w h1 h2 => same_any s t a b w h1 h2
  have HW := Lib.hid works_yes
  unfold Dr.v at HDR HLD HER HLE ⊢
  rw [hkv] at HDR HLD ⊢
  rw [hmv] at HER HLE ⊢
  clear hkv hmv
  go_enter Try.func3, Try.ntmps3
  go_upto_region 1 with fail
  obtain ⟨W0, hW0⟩ : ∃ W0, (w.alloc (.cells #[.int .u16 d.src, .int .u16 d.dst, .int .u16 d.win, .int .u32 d.seq, .int .u32 d.ack, .int .u8 d.flags, .slice kb kn kc, .string d.body, .string d.data] 26)).alloc (.cells #[.int .u16 e.src, .int .u16 e.dst, .int .u16 e.win, .int .u32 e.seq, .int .u32 e.ack, .int .u8 e.flags, .slice mb mn mc, .string e.body, .string e.data] 26) = W0 := ⟨_, rfl⟩
  rw [hW0]
  have HD0 := Lib.hid (show At W0 w.heap.size 26 [.int .u16 d.src, .int .u16 d.dst, .int .u16 d.win, .int .u32 d.seq, .int .u32 d.ack, .int .u8 d.flags, .slice kb kn kc, .string d.body, .string d.data] by rw [← hW0]; exact (At.of_new _ _ _).alloc _)
  have HE0 := Lib.hid (show At W0 (w.heap.size + 1) 26 [.int .u16 e.src, .int .u16 e.dst, .int .u16 e.win, .int .u32 e.seq, .int .u32 e.ack, .int .u8 e.flags, .slice mb mn mc, .string e.body, .string e.data] by rw [← hW0]; exact At.new1 (At.of_new _ _ _) (by simp))
  have B0 := Lib.hid (show Below w.heap.size w W0 by rw [← hW0]; exact ((Below.refl _ _).alloc (Nat.le_refl _) _).alloc (by simp) _)
  clear hW0
  refine wp_region_order 5 [(0, true), (2, true), (1, false), (3, false), (4, false), (5, false)] (fun W => Below W0.heap.size W0 W) (by kernel_rfl) (by kernel_rfl) (by kernel_rfl) rfl (by kernel_rfl) (fun _ _ _ _ _ h => h) ((Below.refl _ _).drew) ?_
  iterate 2
    refine walkG_val (v := ?_) rfl (by rfl) (fun w' hS => ?_) ?_
    rotate_left
    · have hD := HD0.out.kept hS
      have hE := HE0.out.kept hS
      obtain ⟨d0, d1, d2, d3, d4, d5, d6, d7, d8⟩ := hD.cells9
      obtain ⟨e0, e1, e2, e3, e4, e5, e6, e7, e8⟩ := hE.cells9
      clear hD hE hS
      go_simp
      exact rfl
    simp only [Act.put, List.setIfInBounds_toArray, List.set_cons_zero, List.set_cons_succ]
  refine walkG_do rfl (by rfl) ?_
  go_simp
  refine (HLD.out _ B0.out.drew).mono ?_
  rintro _ w1 ⟨rfl, hb⟩
  have hb2 : Below W0.heap.size W0 w1 := ((Below.refl _ _).drew).trans hb
  have HS1 := Lib.hid hb2
  refine ⟨hb2, ?_⟩
  clear hb hb2 HLD
  refine walkG_do rfl (by rfl) ?_
  go_simp
  refine (HLE.out _ (B0.out.trans (HS1.out.mono B0.out.size))).mono ?_
  rintro _ w2 ⟨rfl, hb⟩
  have hb2 : Below W0.heap.size W0 w2 := HS1.out.trans (hb.mono HS1.out.size)
  have HS2 := Lib.hid hb2
  refine ⟨hb2, ?_⟩
  clear hb hb2 HLE HS1
  iterate 2
    refine walkG_do rfl (by rfl) ?_
    go_simp
    try refine ⟨HS2.out, ?_⟩
  simp only [walkG]
  have HD2 := Lib.hid (HD0.out.kept HS2.out)
  have HE2 := Lib.hid (HE0.out.kept HS2.out)
  have HB := Lib.hid (B0.out.trans (HS2.out.mono B0.out.size))
  clear HD0 HE0 B0 HS2
  go_upto_region 2 with fail
  go_cut [11, 12] from 20 to 23 (fun v11 v12 wx => ∃ b1 b2 : Nat, v11 = .pointer (some ⟨b1, 0, none⟩) ∧ v12 = .pointer (some ⟨b2, 0, none⟩) ∧ b1 ≠ b2 ∧ w2.heap.size ≤ b1 ∧ w2.heap.size ≤ b2 ∧ Hid (At wx b1 29 [.int .i64 0, .int .u16 src, .int .u16 dst, .int .u32 seq, .int .u32 ack, .bool syn, .bool ackOn, .bool fin, .bool rst, .int .u16 win, .string area, .string data]) ∧ Hid (At wx b2 29 [.int .i64 0, .int .u16 ysrc, .int .u16 ydst, .int .u32 yseq, .int .u32 yack, .bool ysyn, .bool yackOn, .bool yfin, .bool yrst, .int .u16 ywin, .string yarea, .string ydata]) ∧ Hid (Below w2.heap.size w2 wx))
  case first =>
    have hS : Below w2.heap.size w2 w2.drew := (Below.refl _ _).drew
    refine wp_region_fork 99 [0, 2] 6 (fun W => Below w2.heap.size w2 W) (by kernel_rfl) (by kernel_rfl) (last_none (by simp)) rfl (by kernel_rfl) (fun _ _ _ _ _ h => h) hS ?_
    iterate 2
      refine walkK_val (v := ?_) rfl (by rfl) (fun w' hS' => ?_) ?_
      rotate_left
      · have hD := HD2.out.kept hS'
        have hE := HE2.out.kept hS'
        obtain ⟨d0, d1, d2, d3, d4, d5, d6, d7, d8⟩ := hD.cells9
        obtain ⟨e0, e1, e2, e3, e4, e5, e6, e7, e8⟩ := hE.cells9
        clear hD hE hS'
        go_simp
        exact rfl
      simp only [Act.put, List.setIfInBounds_toArray, List.set_cons_zero, List.set_cons_succ]
    simp only [walkK]
    obtain ⟨V0, hV0⟩ : ∃ V, w2.drew = V := ⟨_, rfl⟩
    have HS0 := Lib.hid (show Below w2.heap.size w2 V0 by rw [← hV0]; exact hS)
    rw [hV0]
    clear hV0 hS HD2 HE2 HLY HSQ HAT HSAME HW
    refine anyG_step [1, 4, 5] (by kernel_rfl) (by simp) ?_
    intro i hi
    simp only [List.mem_cons, List.mem_nil_iff, or_false] at hi
    rcases hi with rfl | rfl | rfl
    · refine opG_do rfl (by rfl) ?_
      go_simp
      refine (HDR.out _ (HB.out.trans (HS0.out.mono HB.out.size))).mono ?_
      unfold Sg.v
      rintro _ V1 ⟨rfl, hb⟩
      have HS1 := Lib.hid (HS0.out.trans (hb.mono HS0.out.size))
      refine ⟨HS1.out, ?_⟩
      clear hb HS0
      refine anyG_step [3, 4, 5] (by kernel_rfl) (by simp) ?_
      intro i hi
      simp only [List.mem_cons, List.mem_nil_iff, or_false] at hi
      rcases hi with rfl | rfl | rfl
      · refine opG_do rfl (by rfl) ?_
        go_simp
        refine (HER.out _ (HB.out.trans (HS1.out.mono HB.out.size))).mono ?_
        unfold Sg.v
        rintro _ V2 ⟨rfl, hb⟩
        have HS2 := Lib.hid (HS1.out.trans (hb.mono HS1.out.size))
        refine ⟨HS2.out, ?_⟩
        clear hb HS1
        refine anyG_step [4, 5] (by kernel_rfl) (by simp) ?_
        intro i hi
        simp only [List.mem_cons, List.mem_nil_iff, or_false] at hi
        rcases hi with rfl | rfl
        · refine opG_do rfl (by rfl) ?_
          go_simp
          obtain ⟨V3, hV⟩ : ∃ V, V2.alloc (.cells #[.int .i64 0, .int .u16 0, .int .u16 0, .int .u32 0, .int .u32 0, .bool false, .bool false, .bool false, .bool false, .int .u16 0, .string ⟨#[]⟩, .string ⟨#[]⟩] 29) = V := ⟨_, rfl⟩
          rw [hV]
          have HS3 := Lib.hid (show Below w2.heap.size w2 V3 by rw [← hV]; exact HS2.out.alloc HS2.out.size _)
          have HX3 := Lib.hid (show At V3 V2.heap.size 29 [.int .i64 0, .int .u16 0, .int .u16 0, .int .u32 0, .int .u32 0, .bool false, .bool false, .bool false, .bool false, .int .u16 0, .string ⟨#[]⟩, .string ⟨#[]⟩] by rw [← hV]; exact At.of_new _ _ _)
          have hgx : w2.heap.size ≤ V2.heap.size := HS2.out.size
          refine ⟨HS3.out, ?_⟩
          clear hV HS2
          refine anyG_step [5] (by kernel_rfl) (by simp) ?_
          intro i hi
          obtain rfl := List.mem_singleton.1 hi
          clear hi
          refine opG_do rfl (by rfl) ?_
          go_simp
          obtain ⟨V4, hV⟩ : ∃ V, V3.alloc (.cells #[.int .i64 0, .int .u16 0, .int .u16 0, .int .u32 0, .int .u32 0, .bool false, .bool false, .bool false, .bool false, .int .u16 0, .string ⟨#[]⟩, .string ⟨#[]⟩] 29) = V := ⟨_, rfl⟩
          rw [hV]
          have HS4 := Lib.hid (show Below w2.heap.size w2 V4 by rw [← hV]; exact HS3.out.alloc HS3.out.size _)
          have HX4 := Lib.hid (show At V4 V2.heap.size 29 [.int .i64 0, .int .u16 0, .int .u16 0, .int .u32 0, .int .u32 0, .bool false, .bool false, .bool false, .bool false, .int .u16 0, .string ⟨#[]⟩, .string ⟨#[]⟩] by rw [← hV]; exact HX3.out.alloc _)
          have HY4 := Lib.hid (show At V4 V3.heap.size 29 [.int .i64 0, .int .u16 0, .int .u16 0, .int .u32 0, .int .u32 0, .bool false, .bool false, .bool false, .bool false, .int .u16 0, .string ⟨#[]⟩, .string ⟨#[]⟩] by rw [← hV]; exact At.of_new _ _ _)
          have hne : V2.heap.size ≠ V3.heap.size := by have := HX3.out.lt; omega
          have hgy : w2.heap.size ≤ V3.heap.size := HS3.out.size
          refine ⟨HS4.out, ?_⟩
          clear hV HS3 HX3
          refine anyG_step [6] (by kernel_rfl) (by simp) ?_
          intro i hi
          obtain rfl := List.mem_singleton.1 hi
          clear hi
          refine opG_do rfl (by rfl) ?_
          have HT := Lib.hid (show V4.there V2.heap.size 0 12 from HX4.out.there (Nat.le_refl _))
          obtain ⟨hX7, g7⟩ := HX4.out.setAll (xs := [.int .i64 0, .int .u16 src, .int .u16 dst, .int .u32 seq, .int .u32 ack, .bool syn, .bool ackOn, .bool fin, .bool rst, .int .u16 win, .string area, .string data]) rfl
          have hY7 := HY4.out.grown g7 (by intro e; exact hne (Option.some.inj e).symm)
          have hB7 := below_only HS4.out g7 HS4.out.size hgx
          refine wp_store_mid _ _ _ rfl V2.heap.size 0 #[.int .i64 0, .int .u16 src, .int .u16 dst, .int .u32 seq, .int .u32 ack, .bool syn, .bool ackOn, .bool fin, .bool rst, .int .u16 win, .string area, .string data] rfl rfl HT.out seg_info (seg_one _ _ _ _ _ _ _ _ _ _ _) ?_
          rw [show (#[.int .i64 0, .int .u16 src, .int .u16 dst, .int .u32 seq, .int .u32 ack, .bool syn, .bool ackOn, .bool fin, .bool rst, .int .u16 win, .string area, .string data] : Array Value).toList = [.int .i64 0, .int .u16 src, .int .u16 dst, .int .u32 seq, .int .u32 ack, .bool syn, .bool ackOn, .bool fin, .bool rst, .int .u16 win, .string area, .string data] from rfl]
          obtain ⟨Vx, hVx⟩ : ∃ V, V4.setCells V2.heap.size 0 [.int .i64 0, .int .u16 src, .int .u16 dst, .int .u32 seq, .int .u32 ack, .bool syn, .bool ackOn, .bool fin, .bool rst, .int .u16 win, .string area, .string data] = V := ⟨_, rfl⟩
          rw [hVx] at hX7 hY7 hB7 ⊢
          have HX7 := Lib.hid hX7
          have HY7 := Lib.hid hY7
          have HB7 := Lib.hid hB7
          clear hX7 hY7 hB7 g7 hVx HT HX4 HY4 HS4
          refine ⟨fun _ => HB7.out, ?_⟩
          refine anyG_step [7] (by kernel_rfl) (by simp) ?_
          intro i hi
          obtain rfl := List.mem_singleton.1 hi
          clear hi
          refine opG_do rfl (by rfl) ?_
          have HT := Lib.hid (show Vx.there V3.heap.size 0 12 from HY7.out.there (Nat.le_refl _))
          obtain ⟨hY8, g8⟩ := HY7.out.setAll (xs := [.int .i64 0, .int .u16 ysrc, .int .u16 ydst, .int .u32 yseq, .int .u32 yack, .bool ysyn, .bool yackOn, .bool yfin, .bool yrst, .int .u16 ywin, .string yarea, .string ydata]) rfl
          have hX8 := HX7.out.grown g8 (by intro e; exact hne (Option.some.inj e))
          have hB8 := below_only HB7.out g8 HB7.out.size hgy
          refine wp_store_mid _ _ _ rfl V3.heap.size 0 #[.int .i64 0, .int .u16 ysrc, .int .u16 ydst, .int .u32 yseq, .int .u32 yack, .bool ysyn, .bool yackOn, .bool yfin, .bool yrst, .int .u16 ywin, .string yarea, .string ydata] rfl rfl HT.out seg_info (seg_one _ _ _ _ _ _ _ _ _ _ _) ?_
          rw [show (#[.int .i64 0, .int .u16 ysrc, .int .u16 ydst, .int .u32 yseq, .int .u32 yack, .bool ysyn, .bool yackOn, .bool yfin, .bool yrst, .int .u16 ywin, .string yarea, .string ydata] : Array Value).toList = [.int .i64 0, .int .u16 ysrc, .int .u16 ydst, .int .u32 yseq, .int .u32 yack, .bool ysyn, .bool yackOn, .bool yfin, .bool yrst, .int .u16 ywin, .string yarea, .string ydata] from rfl]
          obtain ⟨Vy, hVy⟩ : ∃ V, Vx.setCells V3.heap.size 0 [.int .i64 0, .int .u16 ysrc, .int .u16 ydst, .int .u32 yseq, .int .u32 yack, .bool ysyn, .bool yackOn, .bool yfin, .bool yrst, .int .u16 ywin, .string yarea, .string ydata] = V := ⟨_, rfl⟩
          rw [hVy] at hX8 hY8 hB8 ⊢
          have HX8 := Lib.hid hX8
          have HY8 := Lib.hid hY8
          have HB8 := Lib.hid hB8
          clear hX8 hY8 hB8 g8 hVy HT HX7 HY7 HB7
          refine ⟨fun _ => HB8.out, ?_⟩
          refine anyG_end (by kernel_rfl) ?_
          go_wp2_with fail
          go_meet
          exact ⟨_, _, rfl, rfl, hne, hgx, hgy, HX8, HY8, HB8⟩
        · refine opG_do rfl (by rfl) ?_
          go_simp
          obtain ⟨V3, hV⟩ : ∃ V, V2.alloc (.cells #[.int .i64 0, .int .u16 0, .int .u16 0, .int .u32 0, .int .u32 0, .bool false, .bool false, .bool false, .bool false, .int .u16 0, .string ⟨#[]⟩, .string ⟨#[]⟩] 29) = V := ⟨_, rfl⟩
          rw [hV]
          have HS3 := Lib.hid (show Below w2.heap.size w2 V3 by rw [← hV]; exact HS2.out.alloc HS2.out.size _)
          have HY3 := Lib.hid (show At V3 V2.heap.size 29 [.int .i64 0, .int .u16 0, .int .u16 0, .int .u32 0, .int .u32 0, .bool false, .bool false, .bool false, .bool false, .int .u16 0, .string ⟨#[]⟩, .string ⟨#[]⟩] by rw [← hV]; exact At.of_new _ _ _)
          have hgy : w2.heap.size ≤ V2.heap.size := HS2.out.size
          refine ⟨HS3.out, ?_⟩
          clear hV HS2
          refine anyG_step [4] (by kernel_rfl) (by simp) ?_
          intro i hi
          obtain rfl := List.mem_singleton.1 hi
          clear hi
          refine opG_do rfl (by rfl) ?_
          go_simp
          obtain ⟨V4, hV⟩ : ∃ V, V3.alloc (.cells #[.int .i64 0, .int .u16 0, .int .u16 0, .int .u32 0, .int .u32 0, .bool false, .bool false, .bool false, .bool false, .int .u16 0, .string ⟨#[]⟩, .string ⟨#[]⟩] 29) = V := ⟨_, rfl⟩
          rw [hV]
          have HS4 := Lib.hid (show Below w2.heap.size w2 V4 by rw [← hV]; exact HS3.out.alloc HS3.out.size _)
          have HY4 := Lib.hid (show At V4 V2.heap.size 29 [.int .i64 0, .int .u16 0, .int .u16 0, .int .u32 0, .int .u32 0, .bool false, .bool false, .bool false, .bool false, .int .u16 0, .string ⟨#[]⟩, .string ⟨#[]⟩] by rw [← hV]; exact HY3.out.alloc _)
          have HX4 := Lib.hid (show At V4 V3.heap.size 29 [.int .i64 0, .int .u16 0, .int .u16 0, .int .u32 0, .int .u32 0, .bool false, .bool false, .bool false, .bool false, .int .u16 0, .string ⟨#[]⟩, .string ⟨#[]⟩] by rw [← hV]; exact At.of_new _ _ _)
          have hne : V2.heap.size ≠ V3.heap.size := by have := HY3.out.lt; omega
          have hgx : w2.heap.size ≤ V3.heap.size := HS3.out.size
          refine ⟨HS4.out, ?_⟩
          clear hV HS3 HY3
          refine anyG_step [6] (by kernel_rfl) (by simp) ?_
          intro i hi
          obtain rfl := List.mem_singleton.1 hi
          clear hi
          refine opG_do rfl (by rfl) ?_
          have HT := Lib.hid (show V4.there V3.heap.size 0 12 from HX4.out.there (Nat.le_refl _))
          obtain ⟨hX7, g7⟩ := HX4.out.setAll (xs := [.int .i64 0, .int .u16 src, .int .u16 dst, .int .u32 seq, .int .u32 ack, .bool syn, .bool ackOn, .bool fin, .bool rst, .int .u16 win, .string area, .string data]) rfl
          have hY7 := HY4.out.grown g7 (by intro e; exact hne.symm (Option.some.inj e).symm)
          have hB7 := below_only HS4.out g7 HS4.out.size hgx
          refine wp_store_mid _ _ _ rfl V3.heap.size 0 #[.int .i64 0, .int .u16 src, .int .u16 dst, .int .u32 seq, .int .u32 ack, .bool syn, .bool ackOn, .bool fin, .bool rst, .int .u16 win, .string area, .string data] rfl rfl HT.out seg_info (seg_one _ _ _ _ _ _ _ _ _ _ _) ?_
          rw [show (#[.int .i64 0, .int .u16 src, .int .u16 dst, .int .u32 seq, .int .u32 ack, .bool syn, .bool ackOn, .bool fin, .bool rst, .int .u16 win, .string area, .string data] : Array Value).toList = [.int .i64 0, .int .u16 src, .int .u16 dst, .int .u32 seq, .int .u32 ack, .bool syn, .bool ackOn, .bool fin, .bool rst, .int .u16 win, .string area, .string data] from rfl]
          obtain ⟨Vx, hVx⟩ : ∃ V, V4.setCells V3.heap.size 0 [.int .i64 0, .int .u16 src, .int .u16 dst, .int .u32 seq, .int .u32 ack, .bool syn, .bool ackOn, .bool fin, .bool rst, .int .u16 win, .string area, .string data] = V := ⟨_, rfl⟩
          rw [hVx] at hX7 hY7 hB7 ⊢
          have HX7 := Lib.hid hX7
          have HY7 := Lib.hid hY7
          have HB7 := Lib.hid hB7
          clear hX7 hY7 hB7 g7 hVx HT HX4 HY4 HS4
          refine ⟨fun _ => HB7.out, ?_⟩
          refine anyG_step [7] (by kernel_rfl) (by simp) ?_
          intro i hi
          obtain rfl := List.mem_singleton.1 hi
          clear hi
          refine opG_do rfl (by rfl) ?_
          have HT := Lib.hid (show Vx.there V2.heap.size 0 12 from HY7.out.there (Nat.le_refl _))
          obtain ⟨hY8, g8⟩ := HY7.out.setAll (xs := [.int .i64 0, .int .u16 ysrc, .int .u16 ydst, .int .u32 yseq, .int .u32 yack, .bool ysyn, .bool yackOn, .bool yfin, .bool yrst, .int .u16 ywin, .string yarea, .string ydata]) rfl
          have hX8 := HX7.out.grown g8 (by intro e; exact hne.symm (Option.some.inj e))
          have hB8 := below_only HB7.out g8 HB7.out.size hgy
          refine wp_store_mid _ _ _ rfl V2.heap.size 0 #[.int .i64 0, .int .u16 ysrc, .int .u16 ydst, .int .u32 yseq, .int .u32 yack, .bool ysyn, .bool yackOn, .bool yfin, .bool yrst, .int .u16 ywin, .string yarea, .string ydata] rfl rfl HT.out seg_info (seg_one _ _ _ _ _ _ _ _ _ _ _) ?_
          rw [show (#[.int .i64 0, .int .u16 ysrc, .int .u16 ydst, .int .u32 yseq, .int .u32 yack, .bool ysyn, .bool yackOn, .bool yfin, .bool yrst, .int .u16 ywin, .string yarea, .string ydata] : Array Value).toList = [.int .i64 0, .int .u16 ysrc, .int .u16 ydst, .int .u32 yseq, .int .u32 yack, .bool ysyn, .bool yackOn, .bool yfin, .bool yrst, .int .u16 ywin, .string yarea, .string ydata] from rfl]
          obtain ⟨Vy, hVy⟩ : ∃ V, Vx.setCells V2.heap.size 0 [.int .i64 0, .int .u16 ysrc, .int .u16 ydst, .int .u32 yseq, .int .u32 yack, .bool ysyn, .bool yackOn, .bool yfin, .bool yrst, .int .u16 ywin, .string yarea, .string ydata] = V := ⟨_, rfl⟩
          rw [hVy] at hX8 hY8 hB8 ⊢
          have HX8 := Lib.hid hX8
          have HY8 := Lib.hid hY8
          have HB8 := Lib.hid hB8
          clear hX8 hY8 hB8 g8 hVy HT HX7 HY7 HB7
          refine ⟨fun _ => HB8.out, ?_⟩
          refine anyG_end (by kernel_rfl) ?_
          go_wp2_with fail
          go_meet
          exact ⟨_, _, rfl, rfl, hne.symm, hgx, hgy, HX8, HY8, HB8⟩
      · refine opG_do rfl (by rfl) ?_
        go_simp
        obtain ⟨V2, hV⟩ : ∃ V, V1.alloc (.cells #[.int .i64 0, .int .u16 0, .int .u16 0, .int .u32 0, .int .u32 0, .bool false, .bool false, .bool false, .bool false, .int .u16 0, .string ⟨#[]⟩, .string ⟨#[]⟩] 29) = V := ⟨_, rfl⟩
        rw [hV]
        have HS2 := Lib.hid (show Below w2.heap.size w2 V2 by rw [← hV]; exact HS1.out.alloc HS1.out.size _)
        have HX2 := Lib.hid (show At V2 V1.heap.size 29 [.int .i64 0, .int .u16 0, .int .u16 0, .int .u32 0, .int .u32 0, .bool false, .bool false, .bool false, .bool false, .int .u16 0, .string ⟨#[]⟩, .string ⟨#[]⟩] by rw [← hV]; exact At.of_new _ _ _)
        have hgx : w2.heap.size ≤ V1.heap.size := HS1.out.size
        refine ⟨HS2.out, ?_⟩
        clear hV HS1
        refine anyG_step [3, 5] (by kernel_rfl) (by simp) ?_
        intro i hi
        simp only [List.mem_cons, List.mem_nil_iff, or_false] at hi
        rcases hi with rfl | rfl
        · refine opG_do rfl (by rfl) ?_
          go_simp
          refine (HER.out _ (HB.out.trans (HS2.out.mono HB.out.size))).mono ?_
          unfold Sg.v
          rintro _ V3 ⟨rfl, hb⟩
          have HS3 := Lib.hid (HS2.out.trans (hb.mono HS2.out.size))
          have HX3 := Lib.hid (HX2.out.kept hb)
          refine ⟨HS3.out, ?_⟩
          clear hb HS2 HX2
          refine anyG_step [5] (by kernel_rfl) (by simp) ?_
          intro i hi
          obtain rfl := List.mem_singleton.1 hi
          clear hi
          refine opG_do rfl (by rfl) ?_
          go_simp
          obtain ⟨V4, hV⟩ : ∃ V, V3.alloc (.cells #[.int .i64 0, .int .u16 0, .int .u16 0, .int .u32 0, .int .u32 0, .bool false, .bool false, .bool false, .bool false, .int .u16 0, .string ⟨#[]⟩, .string ⟨#[]⟩] 29) = V := ⟨_, rfl⟩
          rw [hV]
          have HS4 := Lib.hid (show Below w2.heap.size w2 V4 by rw [← hV]; exact HS3.out.alloc HS3.out.size _)
          have HX4 := Lib.hid (show At V4 V1.heap.size 29 [.int .i64 0, .int .u16 0, .int .u16 0, .int .u32 0, .int .u32 0, .bool false, .bool false, .bool false, .bool false, .int .u16 0, .string ⟨#[]⟩, .string ⟨#[]⟩] by rw [← hV]; exact HX3.out.alloc _)
          have HY4 := Lib.hid (show At V4 V3.heap.size 29 [.int .i64 0, .int .u16 0, .int .u16 0, .int .u32 0, .int .u32 0, .bool false, .bool false, .bool false, .bool false, .int .u16 0, .string ⟨#[]⟩, .string ⟨#[]⟩] by rw [← hV]; exact At.of_new _ _ _)
          have hne : V1.heap.size ≠ V3.heap.size := by have := HX3.out.lt; omega
          have hgy : w2.heap.size ≤ V3.heap.size := HS3.out.size
          refine ⟨HS4.out, ?_⟩
          clear hV HS3 HX3
          refine anyG_step [6] (by kernel_rfl) (by simp) ?_
          intro i hi
          obtain rfl := List.mem_singleton.1 hi
          clear hi
          refine opG_do rfl (by rfl) ?_
          have HT := Lib.hid (show V4.there V1.heap.size 0 12 from HX4.out.there (Nat.le_refl _))
          obtain ⟨hX7, g7⟩ := HX4.out.setAll (xs := [.int .i64 0, .int .u16 src, .int .u16 dst, .int .u32 seq, .int .u32 ack, .bool syn, .bool ackOn, .bool fin, .bool rst, .int .u16 win, .string area, .string data]) rfl
          have hY7 := HY4.out.grown g7 (by intro e; exact hne (Option.some.inj e).symm)
          have hB7 := below_only HS4.out g7 HS4.out.size hgx
          refine wp_store_mid _ _ _ rfl V1.heap.size 0 #[.int .i64 0, .int .u16 src, .int .u16 dst, .int .u32 seq, .int .u32 ack, .bool syn, .bool ackOn, .bool fin, .bool rst, .int .u16 win, .string area, .string data] rfl rfl HT.out seg_info (seg_one _ _ _ _ _ _ _ _ _ _ _) ?_
          rw [show (#[.int .i64 0, .int .u16 src, .int .u16 dst, .int .u32 seq, .int .u32 ack, .bool syn, .bool ackOn, .bool fin, .bool rst, .int .u16 win, .string area, .string data] : Array Value).toList = [.int .i64 0, .int .u16 src, .int .u16 dst, .int .u32 seq, .int .u32 ack, .bool syn, .bool ackOn, .bool fin, .bool rst, .int .u16 win, .string area, .string data] from rfl]
          obtain ⟨Vx, hVx⟩ : ∃ V, V4.setCells V1.heap.size 0 [.int .i64 0, .int .u16 src, .int .u16 dst, .int .u32 seq, .int .u32 ack, .bool syn, .bool ackOn, .bool fin, .bool rst, .int .u16 win, .string area, .string data] = V := ⟨_, rfl⟩
          rw [hVx] at hX7 hY7 hB7 ⊢
          have HX7 := Lib.hid hX7
          have HY7 := Lib.hid hY7
          have HB7 := Lib.hid hB7
          clear hX7 hY7 hB7 g7 hVx HT HX4 HY4 HS4
          refine ⟨fun _ => HB7.out, ?_⟩
          refine anyG_step [7] (by kernel_rfl) (by simp) ?_
          intro i hi
          obtain rfl := List.mem_singleton.1 hi
          clear hi
          refine opG_do rfl (by rfl) ?_
          have HT := Lib.hid (show Vx.there V3.heap.size 0 12 from HY7.out.there (Nat.le_refl _))
          obtain ⟨hY8, g8⟩ := HY7.out.setAll (xs := [.int .i64 0, .int .u16 ysrc, .int .u16 ydst, .int .u32 yseq, .int .u32 yack, .bool ysyn, .bool yackOn, .bool yfin, .bool yrst, .int .u16 ywin, .string yarea, .string ydata]) rfl
          have hX8 := HX7.out.grown g8 (by intro e; exact hne (Option.some.inj e))
          have hB8 := below_only HB7.out g8 HB7.out.size hgy
          refine wp_store_mid _ _ _ rfl V3.heap.size 0 #[.int .i64 0, .int .u16 ysrc, .int .u16 ydst, .int .u32 yseq, .int .u32 yack, .bool ysyn, .bool yackOn, .bool yfin, .bool yrst, .int .u16 ywin, .string yarea, .string ydata] rfl rfl HT.out seg_info (seg_one _ _ _ _ _ _ _ _ _ _ _) ?_
          rw [show (#[.int .i64 0, .int .u16 ysrc, .int .u16 ydst, .int .u32 yseq, .int .u32 yack, .bool ysyn, .bool yackOn, .bool yfin, .bool yrst, .int .u16 ywin, .string yarea, .string ydata] : Array Value).toList = [.int .i64 0, .int .u16 ysrc, .int .u16 ydst, .int .u32 yseq, .int .u32 yack, .bool ysyn, .bool yackOn, .bool yfin, .bool yrst, .int .u16 ywin, .string yarea, .string ydata] from rfl]
          obtain ⟨Vy, hVy⟩ : ∃ V, Vx.setCells V3.heap.size 0 [.int .i64 0, .int .u16 ysrc, .int .u16 ydst, .int .u32 yseq, .int .u32 yack, .bool ysyn, .bool yackOn, .bool yfin, .bool yrst, .int .u16 ywin, .string yarea, .string ydata] = V := ⟨_, rfl⟩
          rw [hVy] at hX8 hY8 hB8 ⊢
          have HX8 := Lib.hid hX8
          have HY8 := Lib.hid hY8
          have HB8 := Lib.hid hB8
          clear hX8 hY8 hB8 g8 hVy HT HX7 HY7 HB7
          refine ⟨fun _ => HB8.out, ?_⟩
          refine anyG_end (by kernel_rfl) ?_
          go_wp2_with fail
          go_meet
          exact ⟨_, _, rfl, rfl, hne, hgx, hgy, HX8, HY8, HB8⟩
        · refine opG_do rfl (by rfl) ?_
          go_simp
          obtain ⟨V3, hV⟩ : ∃ V, V2.alloc (.cells #[.int .i64 0, .int .u16 0, .int .u16 0, .int .u32 0, .int .u32 0, .bool false, .bool false, .bool false, .bool false, .int .u16 0, .string ⟨#[]⟩, .string ⟨#[]⟩] 29) = V := ⟨_, rfl⟩
          rw [hV]
          have HS3 := Lib.hid (show Below w2.heap.size w2 V3 by rw [← hV]; exact HS2.out.alloc HS2.out.size _)
          have HX3 := Lib.hid (show At V3 V1.heap.size 29 [.int .i64 0, .int .u16 0, .int .u16 0, .int .u32 0, .int .u32 0, .bool false, .bool false, .bool false, .bool false, .int .u16 0, .string ⟨#[]⟩, .string ⟨#[]⟩] by rw [← hV]; exact HX2.out.alloc _)
          have HY3 := Lib.hid (show At V3 V2.heap.size 29 [.int .i64 0, .int .u16 0, .int .u16 0, .int .u32 0, .int .u32 0, .bool false, .bool false, .bool false, .bool false, .int .u16 0, .string ⟨#[]⟩, .string ⟨#[]⟩] by rw [← hV]; exact At.of_new _ _ _)
          have hne : V1.heap.size ≠ V2.heap.size := by have := HX2.out.lt; omega
          have hgy : w2.heap.size ≤ V2.heap.size := HS2.out.size
          refine ⟨HS3.out, ?_⟩
          clear hV HS2 HX2
          refine anyG_step [3] (by kernel_rfl) (by simp) ?_
          intro i hi
          obtain rfl := List.mem_singleton.1 hi
          clear hi
          refine opG_do rfl (by rfl) ?_
          go_simp
          refine (HER.out _ (HB.out.trans (HS3.out.mono HB.out.size))).mono ?_
          unfold Sg.v
          rintro _ V4 ⟨rfl, hb⟩
          have HS4 := Lib.hid (HS3.out.trans (hb.mono HS3.out.size))
          have HX4 := Lib.hid (HX3.out.kept hb)
          have HY4 := Lib.hid (HY3.out.kept hb)
          refine ⟨HS4.out, ?_⟩
          clear hb HS3 HX3 HY3
          refine anyG_step [6] (by kernel_rfl) (by simp) ?_
          intro i hi
          obtain rfl := List.mem_singleton.1 hi
          clear hi
          refine opG_do rfl (by rfl) ?_
          have HT := Lib.hid (show V4.there V1.heap.size 0 12 from HX4.out.there (Nat.le_refl _))
          obtain ⟨hX7, g7⟩ := HX4.out.setAll (xs := [.int .i64 0, .int .u16 src, .int .u16 dst, .int .u32 seq, .int .u32 ack, .bool syn, .bool ackOn, .bool fin, .bool rst, .int .u16 win, .string area, .string data]) rfl
          have hY7 := HY4.out.grown g7 (by intro e; exact hne (Option.some.inj e).symm)
          have hB7 := below_only HS4.out g7 HS4.out.size hgx
          refine wp_store_mid _ _ _ rfl V1.heap.size 0 #[.int .i64 0, .int .u16 src, .int .u16 dst, .int .u32 seq, .int .u32 ack, .bool syn, .bool ackOn, .bool fin, .bool rst, .int .u16 win, .string area, .string data] rfl rfl HT.out seg_info (seg_one _ _ _ _ _ _ _ _ _ _ _) ?_
          rw [show (#[.int .i64 0, .int .u16 src, .int .u16 dst, .int .u32 seq, .int .u32 ack, .bool syn, .bool ackOn, .bool fin, .bool rst, .int .u16 win, .string area, .string data] : Array Value).toList = [.int .i64 0, .int .u16 src, .int .u16 dst, .int .u32 seq, .int .u32 ack, .bool syn, .bool ackOn, .bool fin, .bool rst, .int .u16 win, .string area, .string data] from rfl]
          obtain ⟨Vx, hVx⟩ : ∃ V, V4.setCells V1.heap.size 0 [.int .i64 0, .int .u16 src, .int .u16 dst, .int .u32 seq, .int .u32 ack, .bool syn, .bool ackOn, .bool fin, .bool rst, .int .u16 win, .string area, .string data] = V := ⟨_, rfl⟩
          rw [hVx] at hX7 hY7 hB7 ⊢
          have HX7 := Lib.hid hX7
          have HY7 := Lib.hid hY7
          have HB7 := Lib.hid hB7
          clear hX7 hY7 hB7 g7 hVx HT HX4 HY4 HS4
          refine ⟨fun _ => HB7.out, ?_⟩
          refine anyG_step [7] (by kernel_rfl) (by simp) ?_
          intro i hi
          obtain rfl := List.mem_singleton.1 hi
          clear hi
          refine opG_do rfl (by rfl) ?_
          have HT := Lib.hid (show Vx.there V2.heap.size 0 12 from HY7.out.there (Nat.le_refl _))
          obtain ⟨hY8, g8⟩ := HY7.out.setAll (xs := [.int .i64 0, .int .u16 ysrc, .int .u16 ydst, .int .u32 yseq, .int .u32 yack, .bool ysyn, .bool yackOn, .bool yfin, .bool yrst, .int .u16 ywin, .string yarea, .string ydata]) rfl
          have hX8 := HX7.out.grown g8 (by intro e; exact hne (Option.some.inj e))
          have hB8 := below_only HB7.out g8 HB7.out.size hgy
          refine wp_store_mid _ _ _ rfl V2.heap.size 0 #[.int .i64 0, .int .u16 ysrc, .int .u16 ydst, .int .u32 yseq, .int .u32 yack, .bool ysyn, .bool yackOn, .bool yfin, .bool yrst, .int .u16 ywin, .string yarea, .string ydata] rfl rfl HT.out seg_info (seg_one _ _ _ _ _ _ _ _ _ _ _) ?_
          rw [show (#[.int .i64 0, .int .u16 ysrc, .int .u16 ydst, .int .u32 yseq, .int .u32 yack, .bool ysyn, .bool yackOn, .bool yfin, .bool yrst, .int .u16 ywin, .string yarea, .string ydata] : Array Value).toList = [.int .i64 0, .int .u16 ysrc, .int .u16 ydst, .int .u32 yseq, .int .u32 yack, .bool ysyn, .bool yackOn, .bool yfin, .bool yrst, .int .u16 ywin, .string yarea, .string ydata] from rfl]
          obtain ⟨Vy, hVy⟩ : ∃ V, Vx.setCells V2.heap.size 0 [.int .i64 0, .int .u16 ysrc, .int .u16 ydst, .int .u32 yseq, .int .u32 yack, .bool ysyn, .bool yackOn, .bool yfin, .bool yrst, .int .u16 ywin, .string yarea, .string ydata] = V := ⟨_, rfl⟩
          rw [hVy] at hX8 hY8 hB8 ⊢
          have HX8 := Lib.hid hX8
          have HY8 := Lib.hid hY8
          have HB8 := Lib.hid hB8
          clear hX8 hY8 hB8 g8 hVy HT HX7 HY7 HB7
          refine ⟨fun _ => HB8.out, ?_⟩
          refine anyG_end (by kernel_rfl) ?_
          go_wp2_with fail
          go_meet
          exact ⟨_, _, rfl, rfl, hne, hgx, hgy, HX8, HY8, HB8⟩
      · refine opG_do rfl (by rfl) ?_
        go_simp
        obtain ⟨V2, hV⟩ : ∃ V, V1.alloc (.cells #[.int .i64 0, .int .u16 0, .int .u16 0, .int .u32 0, .int .u32 0, .bool false, .bool false, .bool false, .bool false, .int .u16 0, .string ⟨#[]⟩, .string ⟨#[]⟩] 29) = V := ⟨_, rfl⟩
        rw [hV]
        have HS2 := Lib.hid (show Below w2.heap.size w2 V2 by rw [← hV]; exact HS1.out.alloc HS1.out.size _)
        have HY2 := Lib.hid (show At V2 V1.heap.size 29 [.int .i64 0, .int .u16 0, .int .u16 0, .int .u32 0, .int .u32 0, .bool false, .bool false, .bool false, .bool false, .int .u16 0, .string ⟨#[]⟩, .string ⟨#[]⟩] by rw [← hV]; exact At.of_new _ _ _)
        have hgy : w2.heap.size ≤ V1.heap.size := HS1.out.size
        refine ⟨HS2.out, ?_⟩
        clear hV HS1
        refine anyG_step [3, 4] (by kernel_rfl) (by simp) ?_
        intro i hi
        simp only [List.mem_cons, List.mem_nil_iff, or_false] at hi
        rcases hi with rfl | rfl
        · refine opG_do rfl (by rfl) ?_
          go_simp
          refine (HER.out _ (HB.out.trans (HS2.out.mono HB.out.size))).mono ?_
          unfold Sg.v
          rintro _ V3 ⟨rfl, hb⟩
          have HS3 := Lib.hid (HS2.out.trans (hb.mono HS2.out.size))
          have HY3 := Lib.hid (HY2.out.kept hb)
          refine ⟨HS3.out, ?_⟩
          clear hb HS2 HY2
          refine anyG_step [4] (by kernel_rfl) (by simp) ?_
          intro i hi
          obtain rfl := List.mem_singleton.1 hi
          clear hi
          refine opG_do rfl (by rfl) ?_
          go_simp
          obtain ⟨V4, hV⟩ : ∃ V, V3.alloc (.cells #[.int .i64 0, .int .u16 0, .int .u16 0, .int .u32 0, .int .u32 0, .bool false, .bool false, .bool false, .bool false, .int .u16 0, .string ⟨#[]⟩, .string ⟨#[]⟩] 29) = V := ⟨_, rfl⟩
          rw [hV]
          have HS4 := Lib.hid (show Below w2.heap.size w2 V4 by rw [← hV]; exact HS3.out.alloc HS3.out.size _)
          have HY4 := Lib.hid (show At V4 V1.heap.size 29 [.int .i64 0, .int .u16 0, .int .u16 0, .int .u32 0, .int .u32 0, .bool false, .bool false, .bool false, .bool false, .int .u16 0, .string ⟨#[]⟩, .string ⟨#[]⟩] by rw [← hV]; exact HY3.out.alloc _)
          have HX4 := Lib.hid (show At V4 V3.heap.size 29 [.int .i64 0, .int .u16 0, .int .u16 0, .int .u32 0, .int .u32 0, .bool false, .bool false, .bool false, .bool false, .int .u16 0, .string ⟨#[]⟩, .string ⟨#[]⟩] by rw [← hV]; exact At.of_new _ _ _)
          have hne : V1.heap.size ≠ V3.heap.size := by have := HY3.out.lt; omega
          have hgx : w2.heap.size ≤ V3.heap.size := HS3.out.size
          refine ⟨HS4.out, ?_⟩
          clear hV HS3 HY3
          refine anyG_step [6] (by kernel_rfl) (by simp) ?_
          intro i hi
          obtain rfl := List.mem_singleton.1 hi
          clear hi
          refine opG_do rfl (by rfl) ?_
          have HT := Lib.hid (show V4.there V3.heap.size 0 12 from HX4.out.there (Nat.le_refl _))
          obtain ⟨hX7, g7⟩ := HX4.out.setAll (xs := [.int .i64 0, .int .u16 src, .int .u16 dst, .int .u32 seq, .int .u32 ack, .bool syn, .bool ackOn, .bool fin, .bool rst, .int .u16 win, .string area, .string data]) rfl
          have hY7 := HY4.out.grown g7 (by intro e; exact hne.symm (Option.some.inj e).symm)
          have hB7 := below_only HS4.out g7 HS4.out.size hgx
          refine wp_store_mid _ _ _ rfl V3.heap.size 0 #[.int .i64 0, .int .u16 src, .int .u16 dst, .int .u32 seq, .int .u32 ack, .bool syn, .bool ackOn, .bool fin, .bool rst, .int .u16 win, .string area, .string data] rfl rfl HT.out seg_info (seg_one _ _ _ _ _ _ _ _ _ _ _) ?_
          rw [show (#[.int .i64 0, .int .u16 src, .int .u16 dst, .int .u32 seq, .int .u32 ack, .bool syn, .bool ackOn, .bool fin, .bool rst, .int .u16 win, .string area, .string data] : Array Value).toList = [.int .i64 0, .int .u16 src, .int .u16 dst, .int .u32 seq, .int .u32 ack, .bool syn, .bool ackOn, .bool fin, .bool rst, .int .u16 win, .string area, .string data] from rfl]
          obtain ⟨Vx, hVx⟩ : ∃ V, V4.setCells V3.heap.size 0 [.int .i64 0, .int .u16 src, .int .u16 dst, .int .u32 seq, .int .u32 ack, .bool syn, .bool ackOn, .bool fin, .bool rst, .int .u16 win, .string area, .string data] = V := ⟨_, rfl⟩
          rw [hVx] at hX7 hY7 hB7 ⊢
          have HX7 := Lib.hid hX7
          have HY7 := Lib.hid hY7
          have HB7 := Lib.hid hB7
          clear hX7 hY7 hB7 g7 hVx HT HX4 HY4 HS4
          refine ⟨fun _ => HB7.out, ?_⟩
          refine anyG_step [7] (by kernel_rfl) (by simp) ?_
          intro i hi
          obtain rfl := List.mem_singleton.1 hi
          clear hi
          refine opG_do rfl (by rfl) ?_
          have HT := Lib.hid (show Vx.there V1.heap.size 0 12 from HY7.out.there (Nat.le_refl _))
          obtain ⟨hY8, g8⟩ := HY7.out.setAll (xs := [.int .i64 0, .int .u16 ysrc, .int .u16 ydst, .int .u32 yseq, .int .u32 yack, .bool ysyn, .bool yackOn, .bool yfin, .bool yrst, .int .u16 ywin, .string yarea, .string ydata]) rfl
          have hX8 := HX7.out.grown g8 (by intro e; exact hne.symm (Option.some.inj e))
          have hB8 := below_only HB7.out g8 HB7.out.size hgy
          refine wp_store_mid _ _ _ rfl V1.heap.size 0 #[.int .i64 0, .int .u16 ysrc, .int .u16 ydst, .int .u32 yseq, .int .u32 yack, .bool ysyn, .bool yackOn, .bool yfin, .bool yrst, .int .u16 ywin, .string yarea, .string ydata] rfl rfl HT.out seg_info (seg_one _ _ _ _ _ _ _ _ _ _ _) ?_
          rw [show (#[.int .i64 0, .int .u16 ysrc, .int .u16 ydst, .int .u32 yseq, .int .u32 yack, .bool ysyn, .bool yackOn, .bool yfin, .bool yrst, .int .u16 ywin, .string yarea, .string ydata] : Array Value).toList = [.int .i64 0, .int .u16 ysrc, .int .u16 ydst, .int .u32 yseq, .int .u32 yack, .bool ysyn, .bool yackOn, .bool yfin, .bool yrst, .int .u16 ywin, .string yarea, .string ydata] from rfl]
          obtain ⟨Vy, hVy⟩ : ∃ V, Vx.setCells V1.heap.size 0 [.int .i64 0, .int .u16 ysrc, .int .u16 ydst, .int .u32 yseq, .int .u32 yack, .bool ysyn, .bool yackOn, .bool yfin, .bool yrst, .int .u16 ywin, .string yarea, .string ydata] = V := ⟨_, rfl⟩
          rw [hVy] at hX8 hY8 hB8 ⊢
          have HX8 := Lib.hid hX8
          have HY8 := Lib.hid hY8
          have HB8 := Lib.hid hB8
          clear hX8 hY8 hB8 g8 hVy HT HX7 HY7 HB7
          refine ⟨fun _ => HB8.out, ?_⟩
          refine anyG_end (by kernel_rfl) ?_
          go_wp2_with fail
          go_meet
          exact ⟨_, _, rfl, rfl, hne.symm, hgx, hgy, HX8, HY8, HB8⟩
        · refine opG_do rfl (by rfl) ?_
          go_simp
          obtain ⟨V3, hV⟩ : ∃ V, V2.alloc (.cells #[.int .i64 0, .int .u16 0, .int .u16 0, .int .u32 0, .int .u32 0, .bool false, .bool false, .bool false, .bool false, .int .u16 0, .string ⟨#[]⟩, .string ⟨#[]⟩] 29) = V := ⟨_, rfl⟩
          rw [hV]
          have HS3 := Lib.hid (show Below w2.heap.size w2 V3 by rw [← hV]; exact HS2.out.alloc HS2.out.size _)
          have HY3 := Lib.hid (show At V3 V1.heap.size 29 [.int .i64 0, .int .u16 0, .int .u16 0, .int .u32 0, .int .u32 0, .bool false, .bool false, .bool false, .bool false, .int .u16 0, .string ⟨#[]⟩, .string ⟨#[]⟩] by rw [← hV]; exact HY2.out.alloc _)
          have HX3 := Lib.hid (show At V3 V2.heap.size 29 [.int .i64 0, .int .u16 0, .int .u16 0, .int .u32 0, .int .u32 0, .bool false, .bool false, .bool false, .bool false, .int .u16 0, .string ⟨#[]⟩, .string ⟨#[]⟩] by rw [← hV]; exact At.of_new _ _ _)
          have hne : V1.heap.size ≠ V2.heap.size := by have := HY2.out.lt; omega
          have hgx : w2.heap.size ≤ V2.heap.size := HS2.out.size
          refine ⟨HS3.out, ?_⟩
          clear hV HS2 HY2
          refine anyG_step [3] (by kernel_rfl) (by simp) ?_
          intro i hi
          obtain rfl := List.mem_singleton.1 hi
          clear hi
          refine opG_do rfl (by rfl) ?_
          go_simp
          refine (HER.out _ (HB.out.trans (HS3.out.mono HB.out.size))).mono ?_
          unfold Sg.v
          rintro _ V4 ⟨rfl, hb⟩
          have HS4 := Lib.hid (HS3.out.trans (hb.mono HS3.out.size))
          have HX4 := Lib.hid (HX3.out.kept hb)
          have HY4 := Lib.hid (HY3.out.kept hb)
          refine ⟨HS4.out, ?_⟩
          clear hb HS3 HX3 HY3
          refine anyG_step [6] (by kernel_rfl) (by simp) ?_
          intro i hi
          obtain rfl := List.mem_singleton.1 hi
          clear hi
          refine opG_do rfl (by rfl) ?_
          have HT := Lib.hid (show V4.there V2.heap.size 0 12 from HX4.out.there (Nat.le_refl _))
          obtain ⟨hX7, g7⟩ := HX4.out.setAll (xs := [.int .i64 0, .int .u16 src, .int .u16 dst, .int .u32 seq, .int .u32 ack, .bool syn, .bool ackOn, .bool fin, .bool rst, .int .u16 win, .string area, .string data]) rfl
          have hY7 := HY4.out.grown g7 (by intro e; exact hne.symm (Option.some.inj e).symm)
          have hB7 := below_only HS4.out g7 HS4.out.size hgx
          refine wp_store_mid _ _ _ rfl V2.heap.size 0 #[.int .i64 0, .int .u16 src, .int .u16 dst, .int .u32 seq, .int .u32 ack, .bool syn, .bool ackOn, .bool fin, .bool rst, .int .u16 win, .string area, .string data] rfl rfl HT.out seg_info (seg_one _ _ _ _ _ _ _ _ _ _ _) ?_
          rw [show (#[.int .i64 0, .int .u16 src, .int .u16 dst, .int .u32 seq, .int .u32 ack, .bool syn, .bool ackOn, .bool fin, .bool rst, .int .u16 win, .string area, .string data] : Array Value).toList = [.int .i64 0, .int .u16 src, .int .u16 dst, .int .u32 seq, .int .u32 ack, .bool syn, .bool ackOn, .bool fin, .bool rst, .int .u16 win, .string area, .string data] from rfl]
          obtain ⟨Vx, hVx⟩ : ∃ V, V4.setCells V2.heap.size 0 [.int .i64 0, .int .u16 src, .int .u16 dst, .int .u32 seq, .int .u32 ack, .bool syn, .bool ackOn, .bool fin, .bool rst, .int .u16 win, .string area, .string data] = V := ⟨_, rfl⟩
          rw [hVx] at hX7 hY7 hB7 ⊢
          have HX7 := Lib.hid hX7
          have HY7 := Lib.hid hY7
          have HB7 := Lib.hid hB7
          clear hX7 hY7 hB7 g7 hVx HT HX4 HY4 HS4
          refine ⟨fun _ => HB7.out, ?_⟩
          refine anyG_step [7] (by kernel_rfl) (by simp) ?_
          intro i hi
          obtain rfl := List.mem_singleton.1 hi
          clear hi
          refine opG_do rfl (by rfl) ?_
          have HT := Lib.hid (show Vx.there V1.heap.size 0 12 from HY7.out.there (Nat.le_refl _))
          obtain ⟨hY8, g8⟩ := HY7.out.setAll (xs := [.int .i64 0, .int .u16 ysrc, .int .u16 ydst, .int .u32 yseq, .int .u32 yack, .bool ysyn, .bool yackOn, .bool yfin, .bool yrst, .int .u16 ywin, .string yarea, .string ydata]) rfl
          have hX8 := HX7.out.grown g8 (by intro e; exact hne.symm (Option.some.inj e))
          have hB8 := below_only HB7.out g8 HB7.out.size hgy
          refine wp_store_mid _ _ _ rfl V1.heap.size 0 #[.int .i64 0, .int .u16 ysrc, .int .u16 ydst, .int .u32 yseq, .int .u32 yack, .bool ysyn, .bool yackOn, .bool yfin, .bool yrst, .int .u16 ywin, .string yarea, .string ydata] rfl rfl HT.out seg_info (seg_one _ _ _ _ _ _ _ _ _ _ _) ?_
          rw [show (#[.int .i64 0, .int .u16 ysrc, .int .u16 ydst, .int .u32 yseq, .int .u32 yack, .bool ysyn, .bool yackOn, .bool yfin, .bool yrst, .int .u16 ywin, .string yarea, .string ydata] : Array Value).toList = [.int .i64 0, .int .u16 ysrc, .int .u16 ydst, .int .u32 yseq, .int .u32 yack, .bool ysyn, .bool yackOn, .bool yfin, .bool yrst, .int .u16 ywin, .string yarea, .string ydata] from rfl]
          obtain ⟨Vy, hVy⟩ : ∃ V, Vx.setCells V1.heap.size 0 [.int .i64 0, .int .u16 ysrc, .int .u16 ydst, .int .u32 yseq, .int .u32 yack, .bool ysyn, .bool yackOn, .bool yfin, .bool yrst, .int .u16 ywin, .string yarea, .string ydata] = V := ⟨_, rfl⟩
          rw [hVy] at hX8 hY8 hB8 ⊢
          have HX8 := Lib.hid hX8
          have HY8 := Lib.hid hY8
          have HB8 := Lib.hid hB8
          clear hX8 hY8 hB8 g8 hVy HT HX7 HY7 HB7
          refine ⟨fun _ => HB8.out, ?_⟩
          refine anyG_end (by kernel_rfl) ?_
          go_wp2_with fail
          go_meet
          exact ⟨_, _, rfl, rfl, hne.symm, hgx, hgy, HX8, HY8, HB8⟩
    · refine opG_do rfl (by rfl) ?_
      go_simp
      obtain ⟨V1, hV⟩ : ∃ V, V0.alloc (.cells #[.int .i64 0, .int .u16 0, .int .u16 0, .int .u32 0, .int .u32 0, .bool false, .bool false, .bool false, .bool false, .int .u16 0, .string ⟨#[]⟩, .string ⟨#[]⟩] 29) = V := ⟨_, rfl⟩
      rw [hV]
      have HS1 := Lib.hid (show Below w2.heap.size w2 V1 by rw [← hV]; exact HS0.out.alloc HS0.out.size _)
      have HX1 := Lib.hid (show At V1 V0.heap.size 29 [.int .i64 0, .int .u16 0, .int .u16 0, .int .u32 0, .int .u32 0, .bool false, .bool false, .bool false, .bool false, .int .u16 0, .string ⟨#[]⟩, .string ⟨#[]⟩] by rw [← hV]; exact At.of_new _ _ _)
      have hgx : w2.heap.size ≤ V0.heap.size := HS0.out.size
      refine ⟨HS1.out, ?_⟩
      clear hV HS0
      refine anyG_step [1, 5] (by kernel_rfl) (by simp) ?_
      intro i hi
      simp only [List.mem_cons, List.mem_nil_iff, or_false] at hi
      rcases hi with rfl | rfl
      · refine opG_do rfl (by rfl) ?_
        go_simp
        refine (HDR.out _ (HB.out.trans (HS1.out.mono HB.out.size))).mono ?_
        unfold Sg.v
        rintro _ V2 ⟨rfl, hb⟩
        have HS2 := Lib.hid (HS1.out.trans (hb.mono HS1.out.size))
        have HX2 := Lib.hid (HX1.out.kept hb)
        refine ⟨HS2.out, ?_⟩
        clear hb HS1 HX1
        refine anyG_step [3, 5] (by kernel_rfl) (by simp) ?_
        intro i hi
        simp only [List.mem_cons, List.mem_nil_iff, or_false] at hi
        rcases hi with rfl | rfl
        · refine opG_do rfl (by rfl) ?_
          go_simp
          refine (HER.out _ (HB.out.trans (HS2.out.mono HB.out.size))).mono ?_
          unfold Sg.v
          rintro _ V3 ⟨rfl, hb⟩
          have HS3 := Lib.hid (HS2.out.trans (hb.mono HS2.out.size))
          have HX3 := Lib.hid (HX2.out.kept hb)
          refine ⟨HS3.out, ?_⟩
          clear hb HS2 HX2
          refine anyG_step [5] (by kernel_rfl) (by simp) ?_
          intro i hi
          obtain rfl := List.mem_singleton.1 hi
          clear hi
          refine opG_do rfl (by rfl) ?_
          go_simp
          obtain ⟨V4, hV⟩ : ∃ V, V3.alloc (.cells #[.int .i64 0, .int .u16 0, .int .u16 0, .int .u32 0, .int .u32 0, .bool false, .bool false, .bool false, .bool false, .int .u16 0, .string ⟨#[]⟩, .string ⟨#[]⟩] 29) = V := ⟨_, rfl⟩
          rw [hV]
          have HS4 := Lib.hid (show Below w2.heap.size w2 V4 by rw [← hV]; exact HS3.out.alloc HS3.out.size _)
          have HX4 := Lib.hid (show At V4 V0.heap.size 29 [.int .i64 0, .int .u16 0, .int .u16 0, .int .u32 0, .int .u32 0, .bool false, .bool false, .bool false, .bool false, .int .u16 0, .string ⟨#[]⟩, .string ⟨#[]⟩] by rw [← hV]; exact HX3.out.alloc _)
          have HY4 := Lib.hid (show At V4 V3.heap.size 29 [.int .i64 0, .int .u16 0, .int .u16 0, .int .u32 0, .int .u32 0, .bool false, .bool false, .bool false, .bool false, .int .u16 0, .string ⟨#[]⟩, .string ⟨#[]⟩] by rw [← hV]; exact At.of_new _ _ _)
          have hne : V0.heap.size ≠ V3.heap.size := by have := HX3.out.lt; omega
          have hgy : w2.heap.size ≤ V3.heap.size := HS3.out.size
          refine ⟨HS4.out, ?_⟩
          clear hV HS3 HX3
          refine anyG_step [6] (by kernel_rfl) (by simp) ?_
          intro i hi
          obtain rfl := List.mem_singleton.1 hi
          clear hi
          refine opG_do rfl (by rfl) ?_
          have HT := Lib.hid (show V4.there V0.heap.size 0 12 from HX4.out.there (Nat.le_refl _))
          obtain ⟨hX7, g7⟩ := HX4.out.setAll (xs := [.int .i64 0, .int .u16 src, .int .u16 dst, .int .u32 seq, .int .u32 ack, .bool syn, .bool ackOn, .bool fin, .bool rst, .int .u16 win, .string area, .string data]) rfl
          have hY7 := HY4.out.grown g7 (by intro e; exact hne (Option.some.inj e).symm)
          have hB7 := below_only HS4.out g7 HS4.out.size hgx
          refine wp_store_mid _ _ _ rfl V0.heap.size 0 #[.int .i64 0, .int .u16 src, .int .u16 dst, .int .u32 seq, .int .u32 ack, .bool syn, .bool ackOn, .bool fin, .bool rst, .int .u16 win, .string area, .string data] rfl rfl HT.out seg_info (seg_one _ _ _ _ _ _ _ _ _ _ _) ?_
          rw [show (#[.int .i64 0, .int .u16 src, .int .u16 dst, .int .u32 seq, .int .u32 ack, .bool syn, .bool ackOn, .bool fin, .bool rst, .int .u16 win, .string area, .string data] : Array Value).toList = [.int .i64 0, .int .u16 src, .int .u16 dst, .int .u32 seq, .int .u32 ack, .bool syn, .bool ackOn, .bool fin, .bool rst, .int .u16 win, .string area, .string data] from rfl]
          obtain ⟨Vx, hVx⟩ : ∃ V, V4.setCells V0.heap.size 0 [.int .i64 0, .int .u16 src, .int .u16 dst, .int .u32 seq, .int .u32 ack, .bool syn, .bool ackOn, .bool fin, .bool rst, .int .u16 win, .string area, .string data] = V := ⟨_, rfl⟩
          rw [hVx] at hX7 hY7 hB7 ⊢
          have HX7 := Lib.hid hX7
          have HY7 := Lib.hid hY7
          have HB7 := Lib.hid hB7
          clear hX7 hY7 hB7 g7 hVx HT HX4 HY4 HS4
          refine ⟨fun _ => HB7.out, ?_⟩
          refine anyG_step [7] (by kernel_rfl) (by simp) ?_
          intro i hi
          obtain rfl := List.mem_singleton.1 hi
          clear hi
          refine opG_do rfl (by rfl) ?_
          have HT := Lib.hid (show Vx.there V3.heap.size 0 12 from HY7.out.there (Nat.le_refl _))
          obtain ⟨hY8, g8⟩ := HY7.out.setAll (xs := [.int .i64 0, .int .u16 ysrc, .int .u16 ydst, .int .u32 yseq, .int .u32 yack, .bool ysyn, .bool yackOn, .bool yfin, .bool yrst, .int .u16 ywin, .string yarea, .string ydata]) rfl
          have hX8 := HX7.out.grown g8 (by intro e; exact hne (Option.some.inj e))
          have hB8 := below_only HB7.out g8 HB7.out.size hgy
          refine wp_store_mid _ _ _ rfl V3.heap.size 0 #[.int .i64 0, .int .u16 ysrc, .int .u16 ydst, .int .u32 yseq, .int .u32 yack, .bool ysyn, .bool yackOn, .bool yfin, .bool yrst, .int .u16 ywin, .string yarea, .string ydata] rfl rfl HT.out seg_info (seg_one _ _ _ _ _ _ _ _ _ _ _) ?_
          rw [show (#[.int .i64 0, .int .u16 ysrc, .int .u16 ydst, .int .u32 yseq, .int .u32 yack, .bool ysyn, .bool yackOn, .bool yfin, .bool yrst, .int .u16 ywin, .string yarea, .string ydata] : Array Value).toList = [.int .i64 0, .int .u16 ysrc, .int .u16 ydst, .int .u32 yseq, .int .u32 yack, .bool ysyn, .bool yackOn, .bool yfin, .bool yrst, .int .u16 ywin, .string yarea, .string ydata] from rfl]
          obtain ⟨Vy, hVy⟩ : ∃ V, Vx.setCells V3.heap.size 0 [.int .i64 0, .int .u16 ysrc, .int .u16 ydst, .int .u32 yseq, .int .u32 yack, .bool ysyn, .bool yackOn, .bool yfin, .bool yrst, .int .u16 ywin, .string yarea, .string ydata] = V := ⟨_, rfl⟩
          rw [hVy] at hX8 hY8 hB8 ⊢
          have HX8 := Lib.hid hX8
          have HY8 := Lib.hid hY8
          have HB8 := Lib.hid hB8
          clear hX8 hY8 hB8 g8 hVy HT HX7 HY7 HB7
          refine ⟨fun _ => HB8.out, ?_⟩
          refine anyG_end (by kernel_rfl) ?_
          go_wp2_with fail
          go_meet
          exact ⟨_, _, rfl, rfl, hne, hgx, hgy, HX8, HY8, HB8⟩
        · refine opG_do rfl (by rfl) ?_
          go_simp
          obtain ⟨V3, hV⟩ : ∃ V, V2.alloc (.cells #[.int .i64 0, .int .u16 0, .int .u16 0, .int .u32 0, .int .u32 0, .bool false, .bool false, .bool false, .bool false, .int .u16 0, .string ⟨#[]⟩, .string ⟨#[]⟩] 29) = V := ⟨_, rfl⟩
          rw [hV]
          have HS3 := Lib.hid (show Below w2.heap.size w2 V3 by rw [← hV]; exact HS2.out.alloc HS2.out.size _)
          have HX3 := Lib.hid (show At V3 V0.heap.size 29 [.int .i64 0, .int .u16 0, .int .u16 0, .int .u32 0, .int .u32 0, .bool false, .bool false, .bool false, .bool false, .int .u16 0, .string ⟨#[]⟩, .string ⟨#[]⟩] by rw [← hV]; exact HX2.out.alloc _)
          have HY3 := Lib.hid (show At V3 V2.heap.size 29 [.int .i64 0, .int .u16 0, .int .u16 0, .int .u32 0, .int .u32 0, .bool false, .bool false, .bool false, .bool false, .int .u16 0, .string ⟨#[]⟩, .string ⟨#[]⟩] by rw [← hV]; exact At.of_new _ _ _)
          have hne : V0.heap.size ≠ V2.heap.size := by have := HX2.out.lt; omega
          have hgy : w2.heap.size ≤ V2.heap.size := HS2.out.size
          refine ⟨HS3.out, ?_⟩
          clear hV HS2 HX2
          refine anyG_step [3] (by kernel_rfl) (by simp) ?_
          intro i hi
          obtain rfl := List.mem_singleton.1 hi
          clear hi
          refine opG_do rfl (by rfl) ?_
          go_simp
          refine (HER.out _ (HB.out.trans (HS3.out.mono HB.out.size))).mono ?_
          unfold Sg.v
          rintro _ V4 ⟨rfl, hb⟩
          have HS4 := Lib.hid (HS3.out.trans (hb.mono HS3.out.size))
          have HX4 := Lib.hid (HX3.out.kept hb)
          have HY4 := Lib.hid (HY3.out.kept hb)
          refine ⟨HS4.out, ?_⟩
          clear hb HS3 HX3 HY3
          refine anyG_step [6] (by kernel_rfl) (by simp) ?_
          intro i hi
          obtain rfl := List.mem_singleton.1 hi
          clear hi
          refine opG_do rfl (by rfl) ?_
          have HT := Lib.hid (show V4.there V0.heap.size 0 12 from HX4.out.there (Nat.le_refl _))
          obtain ⟨hX7, g7⟩ := HX4.out.setAll (xs := [.int .i64 0, .int .u16 src, .int .u16 dst, .int .u32 seq, .int .u32 ack, .bool syn, .bool ackOn, .bool fin, .bool rst, .int .u16 win, .string area, .string data]) rfl
          have hY7 := HY4.out.grown g7 (by intro e; exact hne (Option.some.inj e).symm)
          have hB7 := below_only HS4.out g7 HS4.out.size hgx
          refine wp_store_mid _ _ _ rfl V0.heap.size 0 #[.int .i64 0, .int .u16 src, .int .u16 dst, .int .u32 seq, .int .u32 ack, .bool syn, .bool ackOn, .bool fin, .bool rst, .int .u16 win, .string area, .string data] rfl rfl HT.out seg_info (seg_one _ _ _ _ _ _ _ _ _ _ _) ?_
          rw [show (#[.int .i64 0, .int .u16 src, .int .u16 dst, .int .u32 seq, .int .u32 ack, .bool syn, .bool ackOn, .bool fin, .bool rst, .int .u16 win, .string area, .string data] : Array Value).toList = [.int .i64 0, .int .u16 src, .int .u16 dst, .int .u32 seq, .int .u32 ack, .bool syn, .bool ackOn, .bool fin, .bool rst, .int .u16 win, .string area, .string data] from rfl]
          obtain ⟨Vx, hVx⟩ : ∃ V, V4.setCells V0.heap.size 0 [.int .i64 0, .int .u16 src, .int .u16 dst, .int .u32 seq, .int .u32 ack, .bool syn, .bool ackOn, .bool fin, .bool rst, .int .u16 win, .string area, .string data] = V := ⟨_, rfl⟩
          rw [hVx] at hX7 hY7 hB7 ⊢
          have HX7 := Lib.hid hX7
          have HY7 := Lib.hid hY7
          have HB7 := Lib.hid hB7
          clear hX7 hY7 hB7 g7 hVx HT HX4 HY4 HS4
          refine ⟨fun _ => HB7.out, ?_⟩
          refine anyG_step [7] (by kernel_rfl) (by simp) ?_
          intro i hi
          obtain rfl := List.mem_singleton.1 hi
          clear hi
          refine opG_do rfl (by rfl) ?_
          have HT := Lib.hid (show Vx.there V2.heap.size 0 12 from HY7.out.there (Nat.le_refl _))
          obtain ⟨hY8, g8⟩ := HY7.out.setAll (xs := [.int .i64 0, .int .u16 ysrc, .int .u16 ydst, .int .u32 yseq, .int .u32 yack, .bool ysyn, .bool yackOn, .bool yfin, .bool yrst, .int .u16 ywin, .string yarea, .string ydata]) rfl
          have hX8 := HX7.out.grown g8 (by intro e; exact hne (Option.some.inj e))
          have hB8 := below_only HB7.out g8 HB7.out.size hgy
          refine wp_store_mid _ _ _ rfl V2.heap.size 0 #[.int .i64 0, .int .u16 ysrc, .int .u16 ydst, .int .u32 yseq, .int .u32 yack, .bool ysyn, .bool yackOn, .bool yfin, .bool yrst, .int .u16 ywin, .string yarea, .string ydata] rfl rfl HT.out seg_info (seg_one _ _ _ _ _ _ _ _ _ _ _) ?_
          rw [show (#[.int .i64 0, .int .u16 ysrc, .int .u16 ydst, .int .u32 yseq, .int .u32 yack, .bool ysyn, .bool yackOn, .bool yfin, .bool yrst, .int .u16 ywin, .string yarea, .string ydata] : Array Value).toList = [.int .i64 0, .int .u16 ysrc, .int .u16 ydst, .int .u32 yseq, .int .u32 yack, .bool ysyn, .bool yackOn, .bool yfin, .bool yrst, .int .u16 ywin, .string yarea, .string ydata] from rfl]
          obtain ⟨Vy, hVy⟩ : ∃ V, Vx.setCells V2.heap.size 0 [.int .i64 0, .int .u16 ysrc, .int .u16 ydst, .int .u32 yseq, .int .u32 yack, .bool ysyn, .bool yackOn, .bool yfin, .bool yrst, .int .u16 ywin, .string yarea, .string ydata] = V := ⟨_, rfl⟩
          rw [hVy] at hX8 hY8 hB8 ⊢
          have HX8 := Lib.hid hX8
          have HY8 := Lib.hid hY8
          have HB8 := Lib.hid hB8
          clear hX8 hY8 hB8 g8 hVy HT HX7 HY7 HB7
          refine ⟨fun _ => HB8.out, ?_⟩
          refine anyG_end (by kernel_rfl) ?_
          go_wp2_with fail
          go_meet
          exact ⟨_, _, rfl, rfl, hne, hgx, hgy, HX8, HY8, HB8⟩
      · refine opG_do rfl (by rfl) ?_
        go_simp
        obtain ⟨V2, hV⟩ : ∃ V, V1.alloc (.cells #[.int .i64 0, .int .u16 0, .int .u16 0, .int .u32 0, .int .u32 0, .bool false, .bool false, .bool false, .bool false, .int .u16 0, .string ⟨#[]⟩, .string ⟨#[]⟩] 29) = V := ⟨_, rfl⟩
        rw [hV]
        have HS2 := Lib.hid (show Below w2.heap.size w2 V2 by rw [← hV]; exact HS1.out.alloc HS1.out.size _)
        have HX2 := Lib.hid (show At V2 V0.heap.size 29 [.int .i64 0, .int .u16 0, .int .u16 0, .int .u32 0, .int .u32 0, .bool false, .bool false, .bool false, .bool false, .int .u16 0, .string ⟨#[]⟩, .string ⟨#[]⟩] by rw [← hV]; exact HX1.out.alloc _)
        have HY2 := Lib.hid (show At V2 V1.heap.size 29 [.int .i64 0, .int .u16 0, .int .u16 0, .int .u32 0, .int .u32 0, .bool false, .bool false, .bool false, .bool false, .int .u16 0, .string ⟨#[]⟩, .string ⟨#[]⟩] by rw [← hV]; exact At.of_new _ _ _)
        have hne : V0.heap.size ≠ V1.heap.size := by have := HX1.out.lt; omega
        have hgy : w2.heap.size ≤ V1.heap.size := HS1.out.size
        refine ⟨HS2.out, ?_⟩
        clear hV HS1 HX1
        refine anyG_step [1] (by kernel_rfl) (by simp) ?_
        intro i hi
        obtain rfl := List.mem_singleton.1 hi
        clear hi
        refine opG_do rfl (by rfl) ?_
        go_simp
        refine (HDR.out _ (HB.out.trans (HS2.out.mono HB.out.size))).mono ?_
        unfold Sg.v
        rintro _ V3 ⟨rfl, hb⟩
        have HS3 := Lib.hid (HS2.out.trans (hb.mono HS2.out.size))
        have HX3 := Lib.hid (HX2.out.kept hb)
        have HY3 := Lib.hid (HY2.out.kept hb)
        refine ⟨HS3.out, ?_⟩
        clear hb HS2 HX2 HY2
        refine anyG_step [3] (by kernel_rfl) (by simp) ?_
        intro i hi
        obtain rfl := List.mem_singleton.1 hi
        clear hi
        refine opG_do rfl (by rfl) ?_
        go_simp
        refine (HER.out _ (HB.out.trans (HS3.out.mono HB.out.size))).mono ?_
        unfold Sg.v
        rintro _ V4 ⟨rfl, hb⟩
        have HS4 := Lib.hid (HS3.out.trans (hb.mono HS3.out.size))
        have HX4 := Lib.hid (HX3.out.kept hb)
        have HY4 := Lib.hid (HY3.out.kept hb)
        refine ⟨HS4.out, ?_⟩
        clear hb HS3 HX3 HY3
        refine anyG_step [6] (by kernel_rfl) (by simp) ?_
        intro i hi
        obtain rfl := List.mem_singleton.1 hi
        clear hi
        refine opG_do rfl (by rfl) ?_
        have HT := Lib.hid (show V4.there V0.heap.size 0 12 from HX4.out.there (Nat.le_refl _))
        obtain ⟨hX7, g7⟩ := HX4.out.setAll (xs := [.int .i64 0, .int .u16 src, .int .u16 dst, .int .u32 seq, .int .u32 ack, .bool syn, .bool ackOn, .bool fin, .bool rst, .int .u16 win, .string area, .string data]) rfl
        have hY7 := HY4.out.grown g7 (by intro e; exact hne (Option.some.inj e).symm)
        have hB7 := below_only HS4.out g7 HS4.out.size hgx
        refine wp_store_mid _ _ _ rfl V0.heap.size 0 #[.int .i64 0, .int .u16 src, .int .u16 dst, .int .u32 seq, .int .u32 ack, .bool syn, .bool ackOn, .bool fin, .bool rst, .int .u16 win, .string area, .string data] rfl rfl HT.out seg_info (seg_one _ _ _ _ _ _ _ _ _ _ _) ?_
        rw [show (#[.int .i64 0, .int .u16 src, .int .u16 dst, .int .u32 seq, .int .u32 ack, .bool syn, .bool ackOn, .bool fin, .bool rst, .int .u16 win, .string area, .string data] : Array Value).toList = [.int .i64 0, .int .u16 src, .int .u16 dst, .int .u32 seq, .int .u32 ack, .bool syn, .bool ackOn, .bool fin, .bool rst, .int .u16 win, .string area, .string data] from rfl]
        obtain ⟨Vx, hVx⟩ : ∃ V, V4.setCells V0.heap.size 0 [.int .i64 0, .int .u16 src, .int .u16 dst, .int .u32 seq, .int .u32 ack, .bool syn, .bool ackOn, .bool fin, .bool rst, .int .u16 win, .string area, .string data] = V := ⟨_, rfl⟩
        rw [hVx] at hX7 hY7 hB7 ⊢
        have HX7 := Lib.hid hX7
        have HY7 := Lib.hid hY7
        have HB7 := Lib.hid hB7
        clear hX7 hY7 hB7 g7 hVx HT HX4 HY4 HS4
        refine ⟨fun _ => HB7.out, ?_⟩
        refine anyG_step [7] (by kernel_rfl) (by simp) ?_
        intro i hi
        obtain rfl := List.mem_singleton.1 hi
        clear hi
        refine opG_do rfl (by rfl) ?_
        have HT := Lib.hid (show Vx.there V1.heap.size 0 12 from HY7.out.there (Nat.le_refl _))
        obtain ⟨hY8, g8⟩ := HY7.out.setAll (xs := [.int .i64 0, .int .u16 ysrc, .int .u16 ydst, .int .u32 yseq, .int .u32 yack, .bool ysyn, .bool yackOn, .bool yfin, .bool yrst, .int .u16 ywin, .string yarea, .string ydata]) rfl
        have hX8 := HX7.out.grown g8 (by intro e; exact hne (Option.some.inj e))
        have hB8 := below_only HB7.out g8 HB7.out.size hgy
        refine wp_store_mid _ _ _ rfl V1.heap.size 0 #[.int .i64 0, .int .u16 ysrc, .int .u16 ydst, .int .u32 yseq, .int .u32 yack, .bool ysyn, .bool yackOn, .bool yfin, .bool yrst, .int .u16 ywin, .string yarea, .string ydata] rfl rfl HT.out seg_info (seg_one _ _ _ _ _ _ _ _ _ _ _) ?_
        rw [show (#[.int .i64 0, .int .u16 ysrc, .int .u16 ydst, .int .u32 yseq, .int .u32 yack, .bool ysyn, .bool yackOn, .bool yfin, .bool yrst, .int .u16 ywin, .string yarea, .string ydata] : Array Value).toList = [.int .i64 0, .int .u16 ysrc, .int .u16 ydst, .int .u32 yseq, .int .u32 yack, .bool ysyn, .bool yackOn, .bool yfin, .bool yrst, .int .u16 ywin, .string yarea, .string ydata] from rfl]
        obtain ⟨Vy, hVy⟩ : ∃ V, Vx.setCells V1.heap.size 0 [.int .i64 0, .int .u16 ysrc, .int .u16 ydst, .int .u32 yseq, .int .u32 yack, .bool ysyn, .bool yackOn, .bool yfin, .bool yrst, .int .u16 ywin, .string yarea, .string ydata] = V := ⟨_, rfl⟩
        rw [hVy] at hX8 hY8 hB8 ⊢
        have HX8 := Lib.hid hX8
        have HY8 := Lib.hid hY8
        have HB8 := Lib.hid hB8
        clear hX8 hY8 hB8 g8 hVy HT HX7 HY7 HB7
        refine ⟨fun _ => HB8.out, ?_⟩
        refine anyG_end (by kernel_rfl) ?_
        go_wp2_with fail
        go_meet
        exact ⟨_, _, rfl, rfl, hne, hgx, hgy, HX8, HY8, HB8⟩
    · refine opG_do rfl (by rfl) ?_
      go_simp
      obtain ⟨V1, hV⟩ : ∃ V, V0.alloc (.cells #[.int .i64 0, .int .u16 0, .int .u16 0, .int .u32 0, .int .u32 0, .bool false, .bool false, .bool false, .bool false, .int .u16 0, .string ⟨#[]⟩, .string ⟨#[]⟩] 29) = V := ⟨_, rfl⟩
      rw [hV]
      have HS1 := Lib.hid (show Below w2.heap.size w2 V1 by rw [← hV]; exact HS0.out.alloc HS0.out.size _)
      have HY1 := Lib.hid (show At V1 V0.heap.size 29 [.int .i64 0, .int .u16 0, .int .u16 0, .int .u32 0, .int .u32 0, .bool false, .bool false, .bool false, .bool false, .int .u16 0, .string ⟨#[]⟩, .string ⟨#[]⟩] by rw [← hV]; exact At.of_new _ _ _)
      have hgy : w2.heap.size ≤ V0.heap.size := HS0.out.size
      refine ⟨HS1.out, ?_⟩
      clear hV HS0
      refine anyG_step [1, 4] (by kernel_rfl) (by simp) ?_
      intro i hi
      simp only [List.mem_cons, List.mem_nil_iff, or_false] at hi
      rcases hi with rfl | rfl
      · refine opG_do rfl (by rfl) ?_
        go_simp
        refine (HDR.out _ (HB.out.trans (HS1.out.mono HB.out.size))).mono ?_
        unfold Sg.v
        rintro _ V2 ⟨rfl, hb⟩
        have HS2 := Lib.hid (HS1.out.trans (hb.mono HS1.out.size))
        have HY2 := Lib.hid (HY1.out.kept hb)
        refine ⟨HS2.out, ?_⟩
        clear hb HS1 HY1
        refine anyG_step [3, 4] (by kernel_rfl) (by simp) ?_
        intro i hi
        simp only [List.mem_cons, List.mem_nil_iff, or_false] at hi
        rcases hi with rfl | rfl
        · refine opG_do rfl (by rfl) ?_
          go_simp
          refine (HER.out _ (HB.out.trans (HS2.out.mono HB.out.size))).mono ?_
          unfold Sg.v
          rintro _ V3 ⟨rfl, hb⟩
          have HS3 := Lib.hid (HS2.out.trans (hb.mono HS2.out.size))
          have HY3 := Lib.hid (HY2.out.kept hb)
          refine ⟨HS3.out, ?_⟩
          clear hb HS2 HY2
          refine anyG_step [4] (by kernel_rfl) (by simp) ?_
          intro i hi
          obtain rfl := List.mem_singleton.1 hi
          clear hi
          refine opG_do rfl (by rfl) ?_
          go_simp
          obtain ⟨V4, hV⟩ : ∃ V, V3.alloc (.cells #[.int .i64 0, .int .u16 0, .int .u16 0, .int .u32 0, .int .u32 0, .bool false, .bool false, .bool false, .bool false, .int .u16 0, .string ⟨#[]⟩, .string ⟨#[]⟩] 29) = V := ⟨_, rfl⟩
          rw [hV]
          have HS4 := Lib.hid (show Below w2.heap.size w2 V4 by rw [← hV]; exact HS3.out.alloc HS3.out.size _)
          have HY4 := Lib.hid (show At V4 V0.heap.size 29 [.int .i64 0, .int .u16 0, .int .u16 0, .int .u32 0, .int .u32 0, .bool false, .bool false, .bool false, .bool false, .int .u16 0, .string ⟨#[]⟩, .string ⟨#[]⟩] by rw [← hV]; exact HY3.out.alloc _)
          have HX4 := Lib.hid (show At V4 V3.heap.size 29 [.int .i64 0, .int .u16 0, .int .u16 0, .int .u32 0, .int .u32 0, .bool false, .bool false, .bool false, .bool false, .int .u16 0, .string ⟨#[]⟩, .string ⟨#[]⟩] by rw [← hV]; exact At.of_new _ _ _)
          have hne : V0.heap.size ≠ V3.heap.size := by have := HY3.out.lt; omega
          have hgx : w2.heap.size ≤ V3.heap.size := HS3.out.size
          refine ⟨HS4.out, ?_⟩
          clear hV HS3 HY3
          refine anyG_step [6] (by kernel_rfl) (by simp) ?_
          intro i hi
          obtain rfl := List.mem_singleton.1 hi
          clear hi
          refine opG_do rfl (by rfl) ?_
          have HT := Lib.hid (show V4.there V3.heap.size 0 12 from HX4.out.there (Nat.le_refl _))
          obtain ⟨hX7, g7⟩ := HX4.out.setAll (xs := [.int .i64 0, .int .u16 src, .int .u16 dst, .int .u32 seq, .int .u32 ack, .bool syn, .bool ackOn, .bool fin, .bool rst, .int .u16 win, .string area, .string data]) rfl
          have hY7 := HY4.out.grown g7 (by intro e; exact hne.symm (Option.some.inj e).symm)
          have hB7 := below_only HS4.out g7 HS4.out.size hgx
          refine wp_store_mid _ _ _ rfl V3.heap.size 0 #[.int .i64 0, .int .u16 src, .int .u16 dst, .int .u32 seq, .int .u32 ack, .bool syn, .bool ackOn, .bool fin, .bool rst, .int .u16 win, .string area, .string data] rfl rfl HT.out seg_info (seg_one _ _ _ _ _ _ _ _ _ _ _) ?_
          rw [show (#[.int .i64 0, .int .u16 src, .int .u16 dst, .int .u32 seq, .int .u32 ack, .bool syn, .bool ackOn, .bool fin, .bool rst, .int .u16 win, .string area, .string data] : Array Value).toList = [.int .i64 0, .int .u16 src, .int .u16 dst, .int .u32 seq, .int .u32 ack, .bool syn, .bool ackOn, .bool fin, .bool rst, .int .u16 win, .string area, .string data] from rfl]
          obtain ⟨Vx, hVx⟩ : ∃ V, V4.setCells V3.heap.size 0 [.int .i64 0, .int .u16 src, .int .u16 dst, .int .u32 seq, .int .u32 ack, .bool syn, .bool ackOn, .bool fin, .bool rst, .int .u16 win, .string area, .string data] = V := ⟨_, rfl⟩
          rw [hVx] at hX7 hY7 hB7 ⊢
          have HX7 := Lib.hid hX7
          have HY7 := Lib.hid hY7
          have HB7 := Lib.hid hB7
          clear hX7 hY7 hB7 g7 hVx HT HX4 HY4 HS4
          refine ⟨fun _ => HB7.out, ?_⟩
          refine anyG_step [7] (by kernel_rfl) (by simp) ?_
          intro i hi
          obtain rfl := List.mem_singleton.1 hi
          clear hi
          refine opG_do rfl (by rfl) ?_
          have HT := Lib.hid (show Vx.there V0.heap.size 0 12 from HY7.out.there (Nat.le_refl _))
          obtain ⟨hY8, g8⟩ := HY7.out.setAll (xs := [.int .i64 0, .int .u16 ysrc, .int .u16 ydst, .int .u32 yseq, .int .u32 yack, .bool ysyn, .bool yackOn, .bool yfin, .bool yrst, .int .u16 ywin, .string yarea, .string ydata]) rfl
          have hX8 := HX7.out.grown g8 (by intro e; exact hne.symm (Option.some.inj e))
          have hB8 := below_only HB7.out g8 HB7.out.size hgy
          refine wp_store_mid _ _ _ rfl V0.heap.size 0 #[.int .i64 0, .int .u16 ysrc, .int .u16 ydst, .int .u32 yseq, .int .u32 yack, .bool ysyn, .bool yackOn, .bool yfin, .bool yrst, .int .u16 ywin, .string yarea, .string ydata] rfl rfl HT.out seg_info (seg_one _ _ _ _ _ _ _ _ _ _ _) ?_
          rw [show (#[.int .i64 0, .int .u16 ysrc, .int .u16 ydst, .int .u32 yseq, .int .u32 yack, .bool ysyn, .bool yackOn, .bool yfin, .bool yrst, .int .u16 ywin, .string yarea, .string ydata] : Array Value).toList = [.int .i64 0, .int .u16 ysrc, .int .u16 ydst, .int .u32 yseq, .int .u32 yack, .bool ysyn, .bool yackOn, .bool yfin, .bool yrst, .int .u16 ywin, .string yarea, .string ydata] from rfl]
          obtain ⟨Vy, hVy⟩ : ∃ V, Vx.setCells V0.heap.size 0 [.int .i64 0, .int .u16 ysrc, .int .u16 ydst, .int .u32 yseq, .int .u32 yack, .bool ysyn, .bool yackOn, .bool yfin, .bool yrst, .int .u16 ywin, .string yarea, .string ydata] = V := ⟨_, rfl⟩
          rw [hVy] at hX8 hY8 hB8 ⊢
          have HX8 := Lib.hid hX8
          have HY8 := Lib.hid hY8
          have HB8 := Lib.hid hB8
          clear hX8 hY8 hB8 g8 hVy HT HX7 HY7 HB7
          refine ⟨fun _ => HB8.out, ?_⟩
          refine anyG_end (by kernel_rfl) ?_
          go_wp2_with fail
          go_meet
          exact ⟨_, _, rfl, rfl, hne.symm, hgx, hgy, HX8, HY8, HB8⟩
        · refine opG_do rfl (by rfl) ?_
          go_simp
          obtain ⟨V3, hV⟩ : ∃ V, V2.alloc (.cells #[.int .i64 0, .int .u16 0, .int .u16 0, .int .u32 0, .int .u32 0, .bool false, .bool false, .bool false, .bool false, .int .u16 0, .string ⟨#[]⟩, .string ⟨#[]⟩] 29) = V := ⟨_, rfl⟩
          rw [hV]
          have HS3 := Lib.hid (show Below w2.heap.size w2 V3 by rw [← hV]; exact HS2.out.alloc HS2.out.size _)
          have HY3 := Lib.hid (show At V3 V0.heap.size 29 [.int .i64 0, .int .u16 0, .int .u16 0, .int .u32 0, .int .u32 0, .bool false, .bool false, .bool false, .bool false, .int .u16 0, .string ⟨#[]⟩, .string ⟨#[]⟩] by rw [← hV]; exact HY2.out.alloc _)
          have HX3 := Lib.hid (show At V3 V2.heap.size 29 [.int .i64 0, .int .u16 0, .int .u16 0, .int .u32 0, .int .u32 0, .bool false, .bool false, .bool false, .bool false, .int .u16 0, .string ⟨#[]⟩, .string ⟨#[]⟩] by rw [← hV]; exact At.of_new _ _ _)
          have hne : V0.heap.size ≠ V2.heap.size := by have := HY2.out.lt; omega
          have hgx : w2.heap.size ≤ V2.heap.size := HS2.out.size
          refine ⟨HS3.out, ?_⟩
          clear hV HS2 HY2
          refine anyG_step [3] (by kernel_rfl) (by simp) ?_
          intro i hi
          obtain rfl := List.mem_singleton.1 hi
          clear hi
          refine opG_do rfl (by rfl) ?_
          go_simp
          refine (HER.out _ (HB.out.trans (HS3.out.mono HB.out.size))).mono ?_
          unfold Sg.v
          rintro _ V4 ⟨rfl, hb⟩
          have HS4 := Lib.hid (HS3.out.trans (hb.mono HS3.out.size))
          have HX4 := Lib.hid (HX3.out.kept hb)
          have HY4 := Lib.hid (HY3.out.kept hb)
          refine ⟨HS4.out, ?_⟩
          clear hb HS3 HX3 HY3
          refine anyG_step [6] (by kernel_rfl) (by simp) ?_
          intro i hi
          obtain rfl := List.mem_singleton.1 hi
          clear hi
          refine opG_do rfl (by rfl) ?_
          have HT := Lib.hid (show V4.there V2.heap.size 0 12 from HX4.out.there (Nat.le_refl _))
          obtain ⟨hX7, g7⟩ := HX4.out.setAll (xs := [.int .i64 0, .int .u16 src, .int .u16 dst, .int .u32 seq, .int .u32 ack, .bool syn, .bool ackOn, .bool fin, .bool rst, .int .u16 win, .string area, .string data]) rfl
          have hY7 := HY4.out.grown g7 (by intro e; exact hne.symm (Option.some.inj e).symm)
          have hB7 := below_only HS4.out g7 HS4.out.size hgx
          refine wp_store_mid _ _ _ rfl V2.heap.size 0 #[.int .i64 0, .int .u16 src, .int .u16 dst, .int .u32 seq, .int .u32 ack, .bool syn, .bool ackOn, .bool fin, .bool rst, .int .u16 win, .string area, .string data] rfl rfl HT.out seg_info (seg_one _ _ _ _ _ _ _ _ _ _ _) ?_
          rw [show (#[.int .i64 0, .int .u16 src, .int .u16 dst, .int .u32 seq, .int .u32 ack, .bool syn, .bool ackOn, .bool fin, .bool rst, .int .u16 win, .string area, .string data] : Array Value).toList = [.int .i64 0, .int .u16 src, .int .u16 dst, .int .u32 seq, .int .u32 ack, .bool syn, .bool ackOn, .bool fin, .bool rst, .int .u16 win, .string area, .string data] from rfl]
          obtain ⟨Vx, hVx⟩ : ∃ V, V4.setCells V2.heap.size 0 [.int .i64 0, .int .u16 src, .int .u16 dst, .int .u32 seq, .int .u32 ack, .bool syn, .bool ackOn, .bool fin, .bool rst, .int .u16 win, .string area, .string data] = V := ⟨_, rfl⟩
          rw [hVx] at hX7 hY7 hB7 ⊢
          have HX7 := Lib.hid hX7
          have HY7 := Lib.hid hY7
          have HB7 := Lib.hid hB7
          clear hX7 hY7 hB7 g7 hVx HT HX4 HY4 HS4
          refine ⟨fun _ => HB7.out, ?_⟩
          refine anyG_step [7] (by kernel_rfl) (by simp) ?_
          intro i hi
          obtain rfl := List.mem_singleton.1 hi
          clear hi
          refine opG_do rfl (by rfl) ?_
          have HT := Lib.hid (show Vx.there V0.heap.size 0 12 from HY7.out.there (Nat.le_refl _))
          obtain ⟨hY8, g8⟩ := HY7.out.setAll (xs := [.int .i64 0, .int .u16 ysrc, .int .u16 ydst, .int .u32 yseq, .int .u32 yack, .bool ysyn, .bool yackOn, .bool yfin, .bool yrst, .int .u16 ywin, .string yarea, .string ydata]) rfl
          have hX8 := HX7.out.grown g8 (by intro e; exact hne.symm (Option.some.inj e))
          have hB8 := below_only HB7.out g8 HB7.out.size hgy
          refine wp_store_mid _ _ _ rfl V0.heap.size 0 #[.int .i64 0, .int .u16 ysrc, .int .u16 ydst, .int .u32 yseq, .int .u32 yack, .bool ysyn, .bool yackOn, .bool yfin, .bool yrst, .int .u16 ywin, .string yarea, .string ydata] rfl rfl HT.out seg_info (seg_one _ _ _ _ _ _ _ _ _ _ _) ?_
          rw [show (#[.int .i64 0, .int .u16 ysrc, .int .u16 ydst, .int .u32 yseq, .int .u32 yack, .bool ysyn, .bool yackOn, .bool yfin, .bool yrst, .int .u16 ywin, .string yarea, .string ydata] : Array Value).toList = [.int .i64 0, .int .u16 ysrc, .int .u16 ydst, .int .u32 yseq, .int .u32 yack, .bool ysyn, .bool yackOn, .bool yfin, .bool yrst, .int .u16 ywin, .string yarea, .string ydata] from rfl]
          obtain ⟨Vy, hVy⟩ : ∃ V, Vx.setCells V0.heap.size 0 [.int .i64 0, .int .u16 ysrc, .int .u16 ydst, .int .u32 yseq, .int .u32 yack, .bool ysyn, .bool yackOn, .bool yfin, .bool yrst, .int .u16 ywin, .string yarea, .string ydata] = V := ⟨_, rfl⟩
          rw [hVy] at hX8 hY8 hB8 ⊢
          have HX8 := Lib.hid hX8
          have HY8 := Lib.hid hY8
          have HB8 := Lib.hid hB8
          clear hX8 hY8 hB8 g8 hVy HT HX7 HY7 HB7
          refine ⟨fun _ => HB8.out, ?_⟩
          refine anyG_end (by kernel_rfl) ?_
          go_wp2_with fail
          go_meet
          exact ⟨_, _, rfl, rfl, hne.symm, hgx, hgy, HX8, HY8, HB8⟩
      · refine opG_do rfl (by rfl) ?_
        go_simp
        obtain ⟨V2, hV⟩ : ∃ V, V1.alloc (.cells #[.int .i64 0, .int .u16 0, .int .u16 0, .int .u32 0, .int .u32 0, .bool false, .bool false, .bool false, .bool false, .int .u16 0, .string ⟨#[]⟩, .string ⟨#[]⟩] 29) = V := ⟨_, rfl⟩
        rw [hV]
        have HS2 := Lib.hid (show Below w2.heap.size w2 V2 by rw [← hV]; exact HS1.out.alloc HS1.out.size _)
        have HY2 := Lib.hid (show At V2 V0.heap.size 29 [.int .i64 0, .int .u16 0, .int .u16 0, .int .u32 0, .int .u32 0, .bool false, .bool false, .bool false, .bool false, .int .u16 0, .string ⟨#[]⟩, .string ⟨#[]⟩] by rw [← hV]; exact HY1.out.alloc _)
        have HX2 := Lib.hid (show At V2 V1.heap.size 29 [.int .i64 0, .int .u16 0, .int .u16 0, .int .u32 0, .int .u32 0, .bool false, .bool false, .bool false, .bool false, .int .u16 0, .string ⟨#[]⟩, .string ⟨#[]⟩] by rw [← hV]; exact At.of_new _ _ _)
        have hne : V0.heap.size ≠ V1.heap.size := by have := HY1.out.lt; omega
        have hgx : w2.heap.size ≤ V1.heap.size := HS1.out.size
        refine ⟨HS2.out, ?_⟩
        clear hV HS1 HY1
        refine anyG_step [1] (by kernel_rfl) (by simp) ?_
        intro i hi
        obtain rfl := List.mem_singleton.1 hi
        clear hi
        refine opG_do rfl (by rfl) ?_
        go_simp
        refine (HDR.out _ (HB.out.trans (HS2.out.mono HB.out.size))).mono ?_
        unfold Sg.v
        rintro _ V3 ⟨rfl, hb⟩
        have HS3 := Lib.hid (HS2.out.trans (hb.mono HS2.out.size))
        have HX3 := Lib.hid (HX2.out.kept hb)
        have HY3 := Lib.hid (HY2.out.kept hb)
        refine ⟨HS3.out, ?_⟩
        clear hb HS2 HX2 HY2
        refine anyG_step [3] (by kernel_rfl) (by simp) ?_
        intro i hi
        obtain rfl := List.mem_singleton.1 hi
        clear hi
        refine opG_do rfl (by rfl) ?_
        go_simp
        refine (HER.out _ (HB.out.trans (HS3.out.mono HB.out.size))).mono ?_
        unfold Sg.v
        rintro _ V4 ⟨rfl, hb⟩
        have HS4 := Lib.hid (HS3.out.trans (hb.mono HS3.out.size))
        have HX4 := Lib.hid (HX3.out.kept hb)
        have HY4 := Lib.hid (HY3.out.kept hb)
        refine ⟨HS4.out, ?_⟩
        clear hb HS3 HX3 HY3
        refine anyG_step [6] (by kernel_rfl) (by simp) ?_
        intro i hi
        obtain rfl := List.mem_singleton.1 hi
        clear hi
        refine opG_do rfl (by rfl) ?_
        have HT := Lib.hid (show V4.there V1.heap.size 0 12 from HX4.out.there (Nat.le_refl _))
        obtain ⟨hX7, g7⟩ := HX4.out.setAll (xs := [.int .i64 0, .int .u16 src, .int .u16 dst, .int .u32 seq, .int .u32 ack, .bool syn, .bool ackOn, .bool fin, .bool rst, .int .u16 win, .string area, .string data]) rfl
        have hY7 := HY4.out.grown g7 (by intro e; exact hne.symm (Option.some.inj e).symm)
        have hB7 := below_only HS4.out g7 HS4.out.size hgx
        refine wp_store_mid _ _ _ rfl V1.heap.size 0 #[.int .i64 0, .int .u16 src, .int .u16 dst, .int .u32 seq, .int .u32 ack, .bool syn, .bool ackOn, .bool fin, .bool rst, .int .u16 win, .string area, .string data] rfl rfl HT.out seg_info (seg_one _ _ _ _ _ _ _ _ _ _ _) ?_
        rw [show (#[.int .i64 0, .int .u16 src, .int .u16 dst, .int .u32 seq, .int .u32 ack, .bool syn, .bool ackOn, .bool fin, .bool rst, .int .u16 win, .string area, .string data] : Array Value).toList = [.int .i64 0, .int .u16 src, .int .u16 dst, .int .u32 seq, .int .u32 ack, .bool syn, .bool ackOn, .bool fin, .bool rst, .int .u16 win, .string area, .string data] from rfl]
        obtain ⟨Vx, hVx⟩ : ∃ V, V4.setCells V1.heap.size 0 [.int .i64 0, .int .u16 src, .int .u16 dst, .int .u32 seq, .int .u32 ack, .bool syn, .bool ackOn, .bool fin, .bool rst, .int .u16 win, .string area, .string data] = V := ⟨_, rfl⟩
        rw [hVx] at hX7 hY7 hB7 ⊢
        have HX7 := Lib.hid hX7
        have HY7 := Lib.hid hY7
        have HB7 := Lib.hid hB7
        clear hX7 hY7 hB7 g7 hVx HT HX4 HY4 HS4
        refine ⟨fun _ => HB7.out, ?_⟩
        refine anyG_step [7] (by kernel_rfl) (by simp) ?_
        intro i hi
        obtain rfl := List.mem_singleton.1 hi
        clear hi
        refine opG_do rfl (by rfl) ?_
        have HT := Lib.hid (show Vx.there V0.heap.size 0 12 from HY7.out.there (Nat.le_refl _))
        obtain ⟨hY8, g8⟩ := HY7.out.setAll (xs := [.int .i64 0, .int .u16 ysrc, .int .u16 ydst, .int .u32 yseq, .int .u32 yack, .bool ysyn, .bool yackOn, .bool yfin, .bool yrst, .int .u16 ywin, .string yarea, .string ydata]) rfl
        have hX8 := HX7.out.grown g8 (by intro e; exact hne.symm (Option.some.inj e))
        have hB8 := below_only HB7.out g8 HB7.out.size hgy
        refine wp_store_mid _ _ _ rfl V0.heap.size 0 #[.int .i64 0, .int .u16 ysrc, .int .u16 ydst, .int .u32 yseq, .int .u32 yack, .bool ysyn, .bool yackOn, .bool yfin, .bool yrst, .int .u16 ywin, .string yarea, .string ydata] rfl rfl HT.out seg_info (seg_one _ _ _ _ _ _ _ _ _ _ _) ?_
        rw [show (#[.int .i64 0, .int .u16 ysrc, .int .u16 ydst, .int .u32 yseq, .int .u32 yack, .bool ysyn, .bool yackOn, .bool yfin, .bool yrst, .int .u16 ywin, .string yarea, .string ydata] : Array Value).toList = [.int .i64 0, .int .u16 ysrc, .int .u16 ydst, .int .u32 yseq, .int .u32 yack, .bool ysyn, .bool yackOn, .bool yfin, .bool yrst, .int .u16 ywin, .string yarea, .string ydata] from rfl]
        obtain ⟨Vy, hVy⟩ : ∃ V, Vx.setCells V0.heap.size 0 [.int .i64 0, .int .u16 ysrc, .int .u16 ydst, .int .u32 yseq, .int .u32 yack, .bool ysyn, .bool yackOn, .bool yfin, .bool yrst, .int .u16 ywin, .string yarea, .string ydata] = V := ⟨_, rfl⟩
        rw [hVy] at hX8 hY8 hB8 ⊢
        have HX8 := Lib.hid hX8
        have HY8 := Lib.hid hY8
        have HB8 := Lib.hid hB8
        clear hX8 hY8 hB8 g8 hVy HT HX7 HY7 HB7
        refine ⟨fun _ => HB8.out, ?_⟩
        refine anyG_end (by kernel_rfl) ?_
        go_wp2_with fail
        go_meet
        exact ⟨_, _, rfl, rfl, hne.symm, hgx, hgy, HX8, HY8, HB8⟩
  case rest =>
    obtain ⟨b1, b2, rfl, rfl, hne, hg1, hg2, HX, HY, HBc⟩ := hcut
    have hw : w.heap.size ≤ w2.heap.size := HB.out.size
    have B3 := Lib.hid (HB.out.trans (HBc.out.mono HB.out.size))
    have hX := HX.out
    have hY := HY.out
    obtain ⟨fx, x0, x1, x2, x3, x4, x5, x6, x7, x8, x9, x10, x11⟩ := hX.cells12
    obtain ⟨fy, y0, y1, y2, y3, y4, y5, y6, y7, y8, y9, y10, y11⟩ := hY.cells12
    obtain ⟨hsq, wk⟩ := HSQ.out
    clear hX hY HB HBc HDR HER HD2 HE2
    go_upto_region 3 with fail
    go_region
    obtain ⟨W5, hW5⟩ : ∃ W, (((wc.setCell ⟨b2, 1, none⟩ (.int .u16 src)).setCell ⟨b2, 2, none⟩ (.int .u16 dst)).setCell ⟨b2, 3, none⟩ (.int .u32 sq)).drew = W := ⟨_, rfl⟩
    rw [hW5]
    have HX5 := Lib.hid (show At W5 b1 29 [.int .i64 0, .int .u16 src, .int .u16 dst, .int .u32 seq, .int .u32 ack, .bool syn, .bool ackOn, .bool fin, .bool rst, .int .u16 win, .string area, .string data] by rw [← hW5]; exact (((HX.out.far (p := ⟨b2, 1, none⟩) hne (.int .u16 src)).far (p := ⟨b2, 2, none⟩) hne (.int .u16 dst)).far (p := ⟨b2, 3, none⟩) hne (.int .u32 sq)).drew)
    have HY5 := Lib.hid (show At W5 b2 29 [.int .i64 0, .int .u16 src, .int .u16 dst, .int .u32 sq, .int .u32 yack, .bool ysyn, .bool yackOn, .bool yfin, .bool yrst, .int .u16 ywin, .string yarea, .string ydata] by rw [← hW5]; exact (((HY.out.set_ 1 (.int .u16 src)).set_ 2 (.int .u16 dst)).set_ 3 (.int .u32 sq)).drew)
    have B5 := Lib.hid (show Below w.heap.size w W5 by rw [← hW5]; exact (((B3.out.setCell (p := ⟨b2, 1, none⟩) (by simp; omega) (.int .u16 src)).setCell (p := ⟨b2, 2, none⟩) (by simp; omega) (.int .u16 dst)).setCell (p := ⟨b2, 3, none⟩) (by simp; omega) (.int .u32 sq)).drew)
    clear hW5 fx x0 x1 x2 x3 x4 x5 x6 x7 x8 x9 x10 x11 fy y0 y1 y2 y3 y4 y5 y6 y7 y8 y9 y10 y11 hsq wk HSQ HX HY B3
    have hY := HY5.out
    obtain ⟨fy, y0, y1, y2, y3, y4, y5, y6, y7, y8, y9, y10, y11⟩ := hY.cells12
    clear hY
    go_wp2_with fail
    refine (HLY.out _).mono ?_
    rintro _ w6 ⟨rfl, hb⟩
    have B6 := Lib.hid (B5.out.trans (hb.mono B5.out.size))
    have HX6 := Lib.hid (HX5.out.kept hb)
    clear hb B5 HX5 HY5 HLY fy y0 y1 y2 y3 y4 y5 y6 y7 y8 y9 y10 y11
    have x11 := HX6.out.cell 11
    have fx := HX6.out.frozen 11
    simp only [List.getElem?_cons_zero, List.getElem?_cons_succ] at x11
    by_cases hd0 : data.size = 0
    · have t1 : decide (0 < (data.size : Int)) = false := decide_eq_false (by omega)
      have t1n : decide (0 < data.size) = false := decide_eq_false (by omega)
      have t1z : ¬ 0 < data.size := by omega
      have HD0 := Lib.hid hd0
      clear hd0
      go_wp2_with fail
      refine (HSAME.out _ _ _ _ _ hss hts).mono ?_
      rintro _ w7 ⟨rfl, hb⟩
      have B7 := Lib.hid (B6.out.trans (hb.mono B6.out.size))
      clear hb B6
      go_wp2_with fail
      refine (HSAME.out _ _ _ _ _ hss hbs).mono ?_
      rintro _ w8 ⟨rfl, hb⟩
      have B8 := Lib.hid (B7.out.trans (hb.mono B7.out.size))
      clear hb B7
      go_wp2_with fail
      refine (HSAME.out _ _ _ _ _ hbs hss).mono ?_
      rintro _ w9 ⟨rfl, hb⟩
      have B9 := Lib.hid (B8.out.trans (hb.mono B8.out.size))
      clear hb B8
      go_wp2_with fail
      refine (HW.out _).mono ?_
      rintro _ w10 ⟨rfl, hb⟩
      have B10 := Lib.hid (B9.out.trans (hb.mono B9.out.size))
      clear hb B9
      go_wp2_with fail
      go_ret
      exact ⟨rfl, B10.out⟩
    · have t1 : decide (0 < (data.size : Int)) = true := decide_eq_true (by omega)
      have t1n : decide (0 < data.size) = true := decide_eq_true (by omega)
      have t1z : 0 < data.size := by omega
      obtain ⟨a, ea, ha⟩ : ∃ a : Nat, IntKind.u64.wrap at_ = (a : Int) ∧ a < 18446744073709551616 := ⟨(IntKind.u64.wrap at_).toNat, by rw [IntKind.wrap_u64]; omega, by rw [IntKind.wrap_u64]; omega⟩
      obtain ⟨q, eq⟩ : ∃ q, a % data.size = q := ⟨_, rfl⟩
      have hq : q < data.size := by rw [← eq]; exact Nat.mod_lt _ (by omega)
      have c1 : IntKind.u64.wrap (data.size : Int) = (data.size : Int) := by rw [IntKind.wrap_u64]; omega
      have qt : (a : Int).tmod (data.size : Int) = (q : Int) := by rw [Int.tmod_eq_emod_of_nonneg (by omega), ← eq]; rfl
      have qe : (a : Int) % (data.size : Int) = (q : Int) := by rw [← eq]; rfl
      have hnz : ¬ (data.size : Int) = 0 := by omega
      have c2 : IntKind.i64.wrap (q : Int) = (q : Int) := IntWalk.i64_in _ (by omega)
      have c3 : IntKind.i64.wrap ((q : Int) + 1) = (q : Int) + 1 := IntWalk.i64_in _ (by omega)
      have HD0 := Lib.hid hd0
      clear hd0 eq HAT
      go_wp2_with fail
      refine (HSAME.out _ _ _ _ _ hss hts).mono ?_
      rintro _ w7 ⟨rfl, hb⟩
      have B7 := Lib.hid (B6.out.trans (hb.mono B6.out.size))
      clear hb B6
      go_wp2_with fail
      refine (HSAME.out _ _ _ _ _ hss hbs).mono ?_
      rintro _ w8 ⟨rfl, hb⟩
      have B8 := Lib.hid (B7.out.trans (hb.mono B7.out.size))
      clear hb B7
      go_wp2_with fail
      refine (HSAME.out _ _ _ _ _ hbs hss).mono ?_
      rintro _ w9 ⟨rfl, hb⟩
      have B9 := Lib.hid (B8.out.trans (hb.mono B8.out.size))
      clear hb B8
      go_wp2_with fail
      refine (HW.out _).mono ?_
      rintro _ w10 ⟨rfl, hb⟩
      have B10 := Lib.hid (B9.out.trans (hb.mono B9.out.size))
      clear hb B9
      go_wp2_with fail
      go_ret
      exact ⟨rfl, B10.out⟩
end Go.Proofs.Ytdkkfhlijapbeaa
