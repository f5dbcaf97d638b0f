/- The deed of box.Merge, walked. -/
import Derived.Test.YtbbkinldfpphdaaGreatDoorB4
namespace Go.Proofs.YtbbkinldfpphdaaGreatDoor
open Go.RowKit Pl

/-- May two segments become one? -/
def mayMerge (x y : Sg) : Prop := x.syn = false ∧ x.rst = false ∧ y.syn = false ∧ y.rst = false ∧ x.fin = false ∧ x.src = y.src ∧ x.dst = y.dst ∧ y.seq = plusN x.seq x.data.size ∧ x.data.size + y.data.size ≤ 1024
instance (x y : Sg) : Decidable (mayMerge x y) := by unfold mayMerge; infer_instance
def mergeOf (x y : Sg) : Sg := { x with data := x.data ++ y.data, fin := y.fin }

set_option maxHeartbeats 1000000 in
theorem merge_wrong (B : World) (p : Nat) (b : ByteArray) (x : Sg) (hp : At B p 9 [.string b]) (hz : b.size ≤ 9223372036854775807) (h : wrong b ≠ 0) :
    Does 33 #[.pointer (some ⟨p, 0, none⟩)] B x (GiveNot (wrong b)) := by
  intro W hBW
  have hpW := hp.kept hBW
  have HP := Lib.hid (parse_no b hz h)
  obtain ⟨k, hk⟩ : ∃ k, wrong b = k := ⟨_, rfl⟩
  rw [hk] at HP h ⊢
  have h1 : ((k : Int) == 0) = false := by simp; omega
  have h2 : ((k : Int) != 0) = true := by simp; omega
  obtain ⟨src, dst, seq, ack, syn, ackOn, fin, rst, win, area, data⟩ := x
  clear hp hBW hk h
  unfold Sg.v
  simp only [List.append_toArray, List.cons_append, List.nil_append]
  have hc := hpW.cell 0
  have hl := hpW.lt
  simp only [List.getElem?_cons_zero] at hc
  clear hpW
  go_enter Tryz.func33, Tryz.ntmps33
  go_wp2_with fail
  refine (HP.out _).mono ?_
  unfold Sg.v noS
  rintro e w1 ⟨rfl, hb1⟩
  have HB := Lib.hid (allocThen (Below.refl _ W) hb1)
  clear hb1
  go_wp2_with fail
  go_ret2
  exact ⟨rfl, HB.out.alloc HB.out.size _⟩

/-- Two segments' cells. -/
def SM (g h : Nat) (x y : List Value) (w : World) : Prop := At w g 29 x ∧ At w h 29 y
theorem SM.drew {g h : Nat} {x y : List Value} {w : World} (k : SM g h x y w) : SM g h x y w.drew := k
theorem ne_int {a b : Nat} (h : a ≠ b) : ((a : Int) == (b : Int)) = false ∧ ((a : Int) != (b : Int)) = true := by
  constructor
  · rw [beq_eq_false_iff_ne]; omega
  · rw [bne_iff_ne]; omega

/-- What the deed of merging gives. -/
def GiveM (x y : Sg) (w : World) (e : Ending) (w' : World) : Prop := (¬ mayMerge x y → GiveNot 2 w e w') ∧ (mayMerge x y → GiveOne (mergeOf x y) w e w')
theorem giveM_not {x y : Sg} {w w' : World} {e : Ending} (h : ¬ mayMerge x y) (k : GiveNot 2 w e w') : GiveM x y w e w' := ⟨fun _ => k, fun h2 => absurd h2 h⟩
theorem giveM_one {x y : Sg} {w w' : World} {e : Ending} (h : mayMerge x y) (k : GiveOne (mergeOf x y) w e w') : GiveM x y w e w' := ⟨fun h2 => absurd h h2, fun _ => k⟩

set_option maxRecDepth 20000 in
set_option maxHeartbeats 4000000 in
theorem merge_any (B : World) (p : Nat) (b : ByteArray) (x : Sg) (hp : At B p 9 [.string b]) (hz : b.size ≤ 9223372036854775807) (h : wrong b = 0) (hx : x.Ok) :
    Does 33 #[.pointer (some ⟨p, 0, none⟩)] B x (GiveM x (readS b)) := by
  intro W hBW
  have hpW := hp.kept hBW
  have HP := Lib.hid (parse_ok b hz h)
  have hy := (read_ok b h).1
  obtain ⟨y, ey⟩ : ∃ y, readS b = y := ⟨_, rfl⟩
  rw [ey] at HP hy ⊢
  obtain ⟨src, dst, seq, ack, syn, ackOn, fin, rst, win, area, data⟩ := x
  obtain ⟨ysrc, ydst, yseq, yack, ysyn, yackOn, yfin, yrst, ywin, yarea, ydata⟩ := y
  have hd := hx.h7
  have hyd := hy.h7
  have hs2 := hx.h2
  simp only at hd hyd hs2
  clear hp hBW ey h hz hx hy
  unfold Sg.v
  simp only [List.append_toArray, List.cons_append, List.nil_append]
  have hc := hpW.cell 0
  have hl := hpW.lt
  simp only [List.getElem?_cons_zero] at hc
  clear hpW
  go_enter Tryz.func33, Tryz.ntmps33
  go_wp2_with fail
  refine (HP.out _).mono ?_
  unfold Sg.v
  rintro e w1 ⟨rfl, hb1⟩
  have HX1 := (At.of_new W 29 #[.int .i64 0, .int .u16 src, .int .u16 dst, .int .u32 seq, .int .u32 ack, .bool syn, .bool ackOn, .bool fin, .bool rst, .int .u16 win, .string area, .string data]).kept hb1
  have HB1 := Lib.hid (allocThen (Below.refl _ W) hb1)
  have HX2 := HX1.alloc (.cells #[.int .i64 0, .int .u16 ysrc, .int .u16 ydst, .int .u32 yseq, .int .u32 yack, .bool ysyn, .bool yackOn, .bool yfin, .bool yrst, .int .u16 ywin, .string yarea, .string ydata] 29)
  have HY2 := At.of_new w1 29 #[.int .i64 0, .int .u16 ysrc, .int .u16 ydst, .int .u32 yseq, .int .u32 yack, .bool ysyn, .bool yackOn, .bool yfin, .bool yrst, .int .u16 ywin, .string yarea, .string ydata]
  have hXY : W.heap.size < w1.heap.size := HX1.lt
  clear hb1 HP hc
  obtain ⟨f, d0, d1, d2, d3, d4, d5, d6, d7, d8, d9, d10, d11⟩ := HX1.cells12
  clear HX1
  go_wp2_with fail
  refine (bound_any _ _ _ _ _ _ _ _ _ _ _ _ _).mono ?_
  rintro e w2 ⟨rfl, hb2⟩
  have HX3 := HX2.kept hb2
  have HY3 := HY2.kept hb2
  have HB2 := Lib.hid (allocThen HB1.out hb2)
  clear hb2 HX2 HY2 HB1 f d0 d1 d2 d3 d4 d5 d6 d7 d8 d9 d10 d11
  obtain ⟨f, d0, d1, d2, d3, d4, d5, d6, d7, d8, d9, d10, d11⟩ := HX3.cells12
  obtain ⟨f', b0, b1, b2, b3, b4, b5, b6, b7, b8, b9, b10, b11⟩ := HY3.cells12
  by_cases hbx : (syn || rst) = true
  · rw [hbx]
    go_wp2
    go_ret2
    exact giveM_not (fun hm => by have h1 : syn = false := hm.1; have h2 : rst = false := hm.2.1; rw [h1, h2] at hbx; cases hbx) ⟨rfl, HB2.out⟩
  have hbx' : (syn || rst) = false := by simpa using hbx
  rw [hbx']
  go_wp2_with fail
  refine (bound_any _ _ _ _ _ _ _ _ _ _ _ _ _).mono ?_
  rintro e w3 ⟨rfl, hb3⟩
  have HX4 := HX3.kept hb3
  have HY4 := HY3.kept hb3
  have HB3 := Lib.hid (HB2.out.trans (hb3.mono HB2.out.size))
  clear hb3 HX3 HY3 HB2 f f' d0 d1 d2 d3 d4 d5 d6 d7 d8 d9 d10 d11 b0 b1 b2 b3 b4 b5 b6 b7 b8 b9 b10 b11
  obtain ⟨f, d0, d1, d2, d3, d4, d5, d6, d7, d8, d9, d10, d11⟩ := HX4.cells12
  obtain ⟨f', b0, b1, b2, b3, b4, b5, b6, b7, b8, b9, b10, b11⟩ := HY4.cells12
  by_cases hby : (ysyn || yrst) = true
  · rw [hby]
    go_wp2
    go_ret2
    exact giveM_not (fun hm => by have h1 : ysyn = false := hm.2.2.1; have h2 : yrst = false := hm.2.2.2.1; rw [h1, h2] at hby; cases hby) ⟨rfl, HB3.out⟩
  have hby' : (ysyn || yrst) = false := by simpa using hby
  rw [hby']
  cases fin with
  | true =>
    go_wp2
    go_ret2
    exact giveM_not (fun hm => by have := hm.2.2.2.2.1; cases this) ⟨rfl, HB3.out⟩
  | false =>
    by_cases hsrc : src = ysrc
    case neg =>
      have hne := ne_int hsrc
      obtain ⟨n1, n2⟩ := hne
      go_wp2
      go_ret2
      exact giveM_not (fun hm => hsrc hm.2.2.2.2.2.1) ⟨rfl, HB3.out⟩
    subst hsrc
    by_cases hdst : dst = ydst
    case neg =>
      have hne := ne_int hdst
      obtain ⟨n1, n2⟩ := hne
      go_wp2
      go_ret2
      exact giveM_not (fun hm => hdst hm.2.2.2.2.2.2.1) ⟨rfl, HB3.out⟩
    subst hdst
    have hsyn : syn = false ∧ rst = false := by simpa using hbx'
    have hysyn : ysyn = false ∧ yrst = false := by simpa using hby'
    obtain ⟨rfl, rfl⟩ := hsyn
    obtain ⟨rfl, rfl⟩ := hysyn
    go_upto_region 6 with fail
    have HS := Lib.hid (show SM W.heap.size w1.heap.size _ _ w3.drew from ⟨HX4.drew, HY4.drew⟩)
    have HX5 := Lib.hid HX4
    have HY5 := Lib.hid HY4
    clear HX4 HY4 f f' d0 d1 d2 d3 d4 d5 d6 d7 d8 d9 d10 d11 b0 b1 b2 b3 b4 b5 b6 b7 b8 b9 b10 b11
    refine wp_region_order 20 [(0, true), (1, true), (2, true), (3, true), (4, true), (5, true), (6, true), (7, false), (8, true), (9, true), (10, true), (11, true), (12, true), (13, true), (14, true), (15, true), (16, true), (17, true), (18, true), (19, true)] (SM W.heap.size w1.heap.size [.int .i64 0, .int .u16 src, .int .u16 dst, .int .u32 seq, .int .u32 ack, .bool false, .bool ackOn, .bool false, .bool false, .int .u16 win, .string area, .string data] [.int .i64 0, .int .u16 src, .int .u16 dst, .int .u32 yseq, .int .u32 yack, .bool false, .bool yackOn, .bool yfin, .bool false, .int .u16 ywin, .string yarea, .string ydata]) (by kernel_rfl) (by kernel_rfl) (last_none (by simp)) rfl (order_of_N (by kernel_rfl)) (fun _ _ _ _ _ h => h) HS.out ?_
    iterate 7
      refine walkG_val (v := ?_) rfl (by rfl) (fun w' hS => ?_) ?_
      rotate_left
      · have s1 := hS.1.cell 3
        have s2 := hS.1.cell 11
        have s3 := hS.2.cell 3
        have s4 := hS.2.cell 11
        simp only [List.getElem?_cons_zero, List.getElem?_cons_succ] at s1 s2 s3 s4
        clear hS
        go_simp
        exact rfl
      simp only [Act.put, List.setIfInBounds_toArray, List.set_cons_zero, List.set_cons_succ]
    refine walkG_do rfl (by rfl) ?_
    go_simp
    refine (plus_any seq data.size _).mono ?_
    rintro e w4 ⟨rfl, rfl⟩
    refine ⟨HS.out, ?_⟩
    by_cases hseq : yseq = plusN seq data.size
    case neg =>
      have hne := ne_int hseq
      obtain ⟨n1, n2⟩ := hne
      iterate 2
        refine walkG_val (v := ?_) rfl (by rfl) (fun w' hS => ?_) ?_
        rotate_left
        · have s1 := hS.1.cell 3
          have s2 := hS.1.cell 11
          have s3 := hS.2.cell 3
          have s4 := hS.2.cell 11
          simp only [List.getElem?_cons_zero, List.getElem?_cons_succ] at s1 s2 s3 s4
          clear hS
          go_simp
          exact rfl
        simp only [Act.put, List.setIfInBounds_toArray, List.set_cons_zero, List.set_cons_succ]
      iterate 8
        refine walkG_not rfl (by rfl) ?_
        simp only [Act.put, List.setIfInBounds_toArray, List.set_cons_zero, List.set_cons_succ]
      iterate 2
        refine walkG_val (v := ?_) rfl (by rfl) (fun w' hS => ?_) ?_
        rotate_left
        · have s1 := hS.1.cell 3
          have s2 := hS.1.cell 11
          have s3 := hS.2.cell 3
          have s4 := hS.2.cell 11
          simp only [List.getElem?_cons_zero, List.getElem?_cons_succ] at s1 s2 s3 s4
          clear hS
          go_simp
          exact rfl
        simp only [Act.put, List.setIfInBounds_toArray, List.set_cons_zero, List.set_cons_succ]
      simp only [walkG]
      go_wp2
      go_ret2
      exact giveM_not (fun hm => hseq hm.2.2.2.2.2.2.2.1) ⟨rfl, HB3.out.drew⟩
    have e0 : ((yseq : Int) != ((plusN seq data.size : Nat) : Int)) = false := by rw [bne_eq_false_iff_eq]; omega
    have e0' : ((yseq : Int) == ((plusN seq data.size : Nat) : Int)) = true := by rw [beq_iff_eq]; omega
    have HSeq := Lib.hid hseq
    clear hseq
    by_cases hlen : data.size + ydata.size ≤ 1024
    case neg =>
      have e1 : decide ((1024 : Int) < (data.size : Int) + (ydata.size : Int)) = true := by simp; omega
      have e2 : IntKind.i64.wrap ((data.size : Int) + (ydata.size : Int)) = (data.size : Int) + (ydata.size : Int) := IntWalk.i64_in _ (by omega)
      iterate 12
        refine walkG_val (v := ?_) rfl (by rfl) (fun w' hS => ?_) ?_
        rotate_left
        · have s1 := hS.1.cell 3
          have s2 := hS.1.cell 11
          have s3 := hS.2.cell 3
          have s4 := hS.2.cell 11
          simp only [List.getElem?_cons_zero, List.getElem?_cons_succ] at s1 s2 s3 s4
          clear hS
          go_simp
          exact rfl
        simp only [Act.put, List.setIfInBounds_toArray, List.set_cons_zero, List.set_cons_succ]
      simp only [walkG]
      go_wp2
      go_ret2
      exact giveM_not (fun hm => hlen hm.2.2.2.2.2.2.2.2) ⟨rfl, HB3.out.drew⟩
    have e1 : decide ((1024 : Int) < (data.size : Int) + (ydata.size : Int)) = false := by simp; omega
    have e2 : IntKind.i64.wrap ((data.size : Int) + (ydata.size : Int)) = (data.size : Int) + (ydata.size : Int) := IntWalk.i64_in _ (by omega)
    iterate 12
      refine walkG_val (v := ?_) rfl (by rfl) (fun w' hS => ?_) ?_
      rotate_left
      · have s1 := hS.1.cell 3
        have s2 := hS.1.cell 11
        have s3 := hS.2.cell 3
        have s4 := hS.2.cell 11
        simp only [List.getElem?_cons_zero, List.getElem?_cons_succ] at s1 s2 s3 s4
        clear hS
        go_simp
        exact rfl
      simp only [Act.put, List.setIfInBounds_toArray, List.set_cons_zero, List.set_cons_succ]
    simp only [walkG]
    obtain ⟨W5, hW5⟩ : ∃ W5, w3.drew = W5 := ⟨_, rfl⟩
    have hX6 := HX5.out.drew
    have hY6 := HY5.out.drew
    have hB6 := HB3.out.drew
    rw [hW5] at hX6 hY6 hB6 ⊢
    clear hW5 HX5 HY5 HB3 HS
    obtain ⟨f, d0, d1, d2, d3, d4, d5, d6, d7, d8, d9, d10, d11⟩ := hX6.cells12
    obtain ⟨f', b0, b1, b2, b3, b4, b5, b6, b7, b8, b9, b10, b11⟩ := hY6.cells12
    have HX7 := Lib.hid hX6
    have HB7 := Lib.hid hB6
    clear hX6 hY6 hB6
    have nYX : W.heap.size ≠ w1.heap.size := by omega
    have nXY : w1.heap.size ≠ W.heap.size := by omega
    go_upto_region 10 with fail
    obtain ⟨W8, hW8⟩ : ∃ W8, (W5.setCell ⟨W.heap.size, 11, none⟩ (.string (data ++ ydata))).setCell ⟨W.heap.size, 7, none⟩ (.bool yfin) = W8 := ⟨_, rfl⟩
    have hX8 := (HX7.out.set_ 11 (.string (data ++ ydata))).set_ 7 (.bool yfin)
    have hB8 := (HB7.out.setCell (p := ⟨W.heap.size, 11, none⟩) (Nat.le_refl _) (.string (data ++ ydata))).setCell (p := ⟨W.heap.size, 7, none⟩) (Nat.le_refl _) (.bool yfin)
    rw [hW8] at hX8 hB8 ⊢
    simp only [List.set_cons_succ, List.set_cons_zero] at hX8
    clear hW8 f f' d0 d1 d2 d3 d4 d5 d6 d7 d8 d9 d10 d11 b0 b1 b2 b3 b4 b5 b6 b7 b8 b9 b10 b11
    obtain ⟨f, d0, d1, d2, d3, d4, d5, d6, d7, d8, d9, d10, d11⟩ := hX8.cells12
    have HB9 := Lib.hid hB8
    clear hX8 hB8 HX7 HB7
    go_wp2
    go_ret2
    exact giveM_one ⟨rfl, rfl, rfl, rfl, rfl, rfl, rfl, HSeq.out, hlen⟩ ⟨_, rfl, At.of_new _ _ _, HB9.out.alloc HB9.out.size _⟩
end Go.Proofs.YtbbkinldfpphdaaGreatDoor
