/- The document's Merge, walked. -/
import Derived.Test.YtdkkfhlijapbeaaD1
import Derived.Deep.QuietTactic
import Derived.BigQuiet
namespace Go.Proofs.Ytdkkfhlijapbeaa
open Go.RowKit Pl

theorem rmerge_wrong (s t : ByteArray) (w : World) (hz : s.size ≤ 9223372036854775807) (h : wrong s ≠ 0) :
    Calls Try.prog 28 #[.string s, .string t] w fun e w' => e = .returned (.tuple #[.string ⟨#[]⟩, .int .i64 (wrong s : Nat)]) ∧ Below w.heap.size w w' := by
  have HP := Lib.hid (rparse_no s hz h)
  obtain ⟨k, hk⟩ : ∃ k, wrong s = k := ⟨_, rfl⟩
  rw [hk] at HP h ⊢
  have h1 : ((k : Int) == 0) = false := by simp; omega
  have h2 : ((k : Int) != 0) = true := by simp; omega
  clear hk h
  go_enter Try.func28, Try.ntmps28
  go_wp2_with fail
  refine (HP.out _).mono ?_
  unfold Sg.v noS
  rintro e w1 ⟨rfl, hb1⟩
  go_wp2_with fail
  go_ret2
  exact ⟨rfl, hb1.alloc hb1.size _⟩

set_option maxRecDepth 20000 in
set_option maxHeartbeats 1000000 in
theorem rmerge_wrong2 (s t : ByteArray) (w : World) (hz : s.size ≤ 9223372036854775807) (h0 : wrong s = 0) (hz2 : t.size ≤ 9223372036854775807) (h : wrong t ≠ 0) :
    Calls Try.prog 28 #[.string s, .string t] w fun e w' => e = .returned (.tuple #[.string ⟨#[]⟩, .int .i64 (wrong t : Nat)]) ∧ Below w.heap.size w w' := by
  have HP := Lib.hid (rparse_ok s hz h0)
  have HN := Lib.hid (rparse_no t hz2 h)
  obtain ⟨x, ex⟩ : ∃ x, readS s = x := ⟨_, rfl⟩
  rw [ex] at HP
  obtain ⟨src, dst, seq, ack, syn, ackOn, fin, rst, win, area, data⟩ := x
  obtain ⟨k, hk⟩ : ∃ k, wrong t = k := ⟨_, rfl⟩
  rw [hk] at HN h ⊢
  have h1 : ((k : Int) == 0) = false := by simp; omega
  have h2 : ((k : Int) != 0) = true := by simp; omega
  clear hk h ex h0 hz hz2
  go_enter Try.func28, Try.ntmps28
  go_wp2_with fail
  refine (HP.out _).mono ?_
  unfold Sg.v
  rintro e w1 ⟨rfl, hb1⟩
  have HB1 := Lib.hid hb1
  clear hb1
  go_wp2_with fail
  refine (HN.out _).mono ?_
  unfold Sg.v noS
  rintro e w2 ⟨rfl, hb2⟩
  have HB2 := Lib.hid (allocThen HB1.out hb2)
  clear hb2 HB1
  go_wp2_with fail
  go_ret2
  exact ⟨rfl, HB2.out.alloc HB2.out.size _⟩

/-- What the document's merging gives. -/
def RM (x y : Sg) (tm : ByteArray) (w : World) (e : Ending) (w' : World) : Prop :=
  (¬ mayMerge x y → e = .returned (.tuple #[.string ⟨#[]⟩, .int .i64 2]) ∧ Below w.heap.size w w') ∧ (mayMerge x y → e = .returned (.tuple #[.string tm, .int .i64 0]) ∧ Below w.heap.size w w')
theorem rm_not {x y : Sg} {tm : ByteArray} {w w' : World} {e : Ending} (h : ¬ mayMerge x y) (k : e = .returned (.tuple #[.string ⟨#[]⟩, .int .i64 2])) (hb : Below w.heap.size w w') : RM x y tm w e w' := ⟨fun _ => ⟨k, hb⟩, fun h2 => absurd h2 h⟩
theorem rm_one {x y : Sg} {tm : ByteArray} {w w' : World} {e : Ending} (h : mayMerge x y) (k : e = .returned (.tuple #[.string tm, .int .i64 0])) (hb : Below w.heap.size w w') : RM x y tm w e w' := ⟨fun h2 => absurd h h2, fun _ => ⟨k, hb⟩⟩

set_option maxRecDepth 20000 in
set_option maxHeartbeats 8000000 in
theorem rmerge_good (s t : ByteArray) (w : World) (hz : s.size ≤ 9223372036854775807) (h0 : wrong s = 0) (hz2 : t.size ≤ 9223372036854775807) (h1 : wrong t = 0) (tm : ByteArray)
    (HL : Hid (mayMerge (readS s) (readS t) → LayTo 10 (mergeOf (readS s) (readS t)) tm 0)) :
    Calls Try.prog 28 #[.string s, .string t] w (RM (readS s) (readS t) tm w) := by
  have HP := Lib.hid (rparse_ok s hz h0)
  have HQ := Lib.hid (rparse_ok t hz2 h1)
  have hx := (read_ok s h0).1
  have hy := (read_ok t h1).1
  obtain ⟨x, ex⟩ : ∃ x, readS s = x := ⟨_, rfl⟩
  obtain ⟨y, ey⟩ : ∃ y, readS t = y := ⟨_, rfl⟩
  rw [ex] at HP HL hx ⊢
  rw [ey] at HQ HL hy ⊢
  obtain ⟨src, dst, seq, ack, syn, ackOn, fin, rst, win, area, data⟩ := x
  obtain ⟨ysrc, ydst, yseq, yack, ysyn, yackOn, yfin, yrst, ywin, yarea, ydata⟩ := y
  have hd := hx.h7
  have hyd := hy.h7
  have hs2 := hx.h2
  simp only at hd hyd hs2
  clear ex ey hx hy h0 h1 hz hz2
  go_enter Try.func28, Try.ntmps28
  go_wp2_with fail
  refine (HP.out _).mono ?_
  unfold Sg.v
  rintro e w1 ⟨rfl, hb1⟩
  have HB1 := Lib.hid hb1
  clear hb1
  go_wp2_with fail
  refine (HQ.out _).mono ?_
  unfold Sg.v
  rintro e w2 ⟨rfl, hb2⟩
  have HB2 := Lib.hid (allocThen HB1.out hb2)
  have hX := (At.of_new w1 29 #[.int .i64 0, .int .u16 src, .int .u16 dst, .int .u32 seq, .int .u32 ack, .bool syn, .bool ackOn, .bool fin, .bool rst, .int .u16 win, .string area, .string data]).kept hb2
  clear hb2 HP HQ
  go_upto_region 7 with fail
  obtain ⟨W3, hW3⟩ : ∃ W3, (w2.alloc (.cells #[.int .i64 0, .int .u16 ysrc, .int .u16 ydst, .int .u32 yseq, .int .u32 yack, .bool ysyn, .bool yackOn, .bool yfin, .bool yrst, .int .u16 ywin, .string yarea, .string ydata] 29)) = W3 := ⟨_, rfl⟩
  rw [hW3]
  have hX3 : At W3 w1.heap.size 29 [.int .i64 0, .int .u16 src, .int .u16 dst, .int .u32 seq, .int .u32 ack, .bool syn, .bool ackOn, .bool fin, .bool rst, .int .u16 win, .string area, .string data] := by rw [← hW3]; exact hX.alloc _
  have hY3 : At W3 w2.heap.size 29 [.int .i64 0, .int .u16 ysrc, .int .u16 ydst, .int .u32 yseq, .int .u32 yack, .bool ysyn, .bool yackOn, .bool yfin, .bool yrst, .int .u16 ywin, .string yarea, .string ydata] := by rw [← hW3]; exact At.of_new _ _ _
  have HB3 := Lib.hid (show Below w.heap.size w W3 by rw [← hW3]; exact HB2.out.alloc HB2.out.size _)
  have hxy : w1.heap.size < w2.heap.size := hX.lt
  have HX := Lib.hid hX3
  have HY := Lib.hid hY3
  have hw1 := HB1.out.size
  obtain ⟨fx, d0, d1, d2, d3, d4, d5, d6, d7, d8, d9, d10, d11⟩ := hX3.cells12
  obtain ⟨fy, b0, b1, b2, b3, b4, b5, b6, b7, b8, b9, b10, b11⟩ := hY3.cells12
  clear hX hX3 hY3 hW3 HB2 HB1
  cases syn with
  | true =>
    go_quiet (fail)
    go_wp2_with fail
    go_ret2
    exact rm_not (fun hm => by have := hm.1; cases this) rfl (below_dn HB3.out _)
  | false =>
  cases rst with
  | true =>
    go_quiet (fail)
    go_wp2_with fail
    go_ret2
    exact rm_not (fun hm => by have := hm.2.1; cases this) rfl (below_dn HB3.out _)
  | false =>
  cases ysyn with
  | true =>
    go_quiet (fail)
    go_wp2_with fail
    go_ret2
    exact rm_not (fun hm => by have := hm.2.2.1; cases this) rfl (below_dn HB3.out _)
  | false =>
  cases yrst with
  | true =>
    go_quiet (fail)
    go_wp2_with fail
    go_ret2
    exact rm_not (fun hm => by have := hm.2.2.2.1; cases this) rfl (below_dn HB3.out _)
  | false =>
  cases fin with
  | true =>
    go_quiet (fail)
    go_wp2_with fail
    go_ret2
    exact rm_not (fun hm => by have := hm.2.2.2.2.1; cases this) rfl (below_dn HB3.out _)
  | false =>
  by_cases hsrc : src = ysrc
  case neg =>
    have hne := ne_int hsrc
    obtain ⟨n1, n2⟩ := hne
    go_quiet (fail)
    go_wp2_with fail
    go_ret2
    exact rm_not (fun hm => hsrc hm.2.2.2.2.2.1) rfl (below_dn HB3.out _)
  subst hsrc
  by_cases hdst : dst = ydst
  case neg =>
    have hne := ne_int hdst
    obtain ⟨n1, n2⟩ := hne
    go_quiet (fail)
    go_wp2_with fail
    go_ret2
    exact rm_not (fun hm => hdst hm.2.2.2.2.2.2.1) rfl (below_dn HB3.out _)
  subst hdst
  have HPL : Hid (∀ w, Calls Try.prog 51 #[.int .u32 seq, .int .i64 data.size] w fun e w' => e = .returned (.int .u32 (plusN seq data.size : Nat)) ∧ w' = w) := fun w => (rplus_any seq data.size w hs2 hd).mono fun e w' ⟨a, b⟩ => ⟨a, b.symm⟩
  by_cases hseq : yseq = plusN seq data.size
  case neg =>
    have hne := ne_int hseq
    obtain ⟨n1, n2⟩ := hne
    go_quiet ((go_at_call 51; exact Calls.quiet_of_same (HPL.out _)))
    go_wp2_with fail
    go_ret2
    exact rm_not (fun hm => hseq hm.2.2.2.2.2.2.2.1) rfl (below_dn HB3.out _)
  subst hseq
  by_cases hsz : data.size + ydata.size ≤ 1024
  case neg =>
    have n1 : decide (1024 < (data.size : Int) + (ydata.size : Int)) = true := by simp; omega
    have n2 : IntKind.i64.wrap ((data.size : Int) + (ydata.size : Int)) = (data.size : Int) + (ydata.size : Int) := IntWalk.i64_in _ (by omega)
    go_quiet ((go_at_call 51; exact Calls.quiet_of_same (HPL.out _)))
    go_wp2_with fail
    go_ret2
    exact rm_not (fun hm => hsz hm.2.2.2.2.2.2.2.2) rfl (below_dn HB3.out _)
  have n1 : decide (1024 < (data.size : Int) + (ydata.size : Int)) = false := by simp; omega
  have n2 : IntKind.i64.wrap ((data.size : Int) + (ydata.size : Int)) = (data.size : Int) + (ydata.size : Int) := IntWalk.i64_in _ (by omega)
  go_quiet ((go_at_call 51; exact Calls.quiet_of_same (HPL.out _)))
  have hcat : ¬ 9223372036854775807 < data.size + ydata.size := by omega
  have HM : mayMerge ⟨src, dst, seq, ack, false, ackOn, false, false, win, area, data⟩ ⟨src, dst, plusN seq data.size, yack, false, yackOn, yfin, false, ywin, yarea, ydata⟩ := ⟨rfl, rfl, rfl, rfl, rfl, rfl, rfl, rfl, hsz⟩
  have HL2 := Lib.hid (HL.out HM)
  have HMh := Lib.hid HM
  unfold mergeOf at HL2
  simp only at HL2
  have HX4 := Lib.hid (((HX.out.drewN nq).set_ 11 (.string (data ++ ydata))).set_ 7 (.bool yfin))
  have HB4 := Lib.hid (((below_dn HB3.out nq).setCell (p := ⟨w1.heap.size, 11, none⟩) hw1 (.string (data ++ ydata))).setCell (p := ⟨w1.heap.size, 7, none⟩) hw1 (.bool yfin))
  clear HL HM HPL
  have hyx : w2.heap.size ≠ w1.heap.size := by omega
  have hxy2 : w1.heap.size ≠ w2.heap.size := by omega
  go_wp2_with fail
  refine (HL2.out _).mono ?_
  rintro e w4 ⟨rfl, hb4⟩
  have HB5 := Lib.hid (HB4.out.trans (hb4.mono HB4.out.size))
  clear hb4
  go_wp2_with fail
  go_ret2
  exact rm_one HMh.out rfl HB5.out

theorem rmerge_any (a b : ByteArray) (w : World) (hz : a.size ≤ 9223372036854775807) (hz2 : b.size ≤ 9223372036854775807) :
    Calls Try.prog 28 #[.string a, .string b] w fun e w' => e = .returned (.tuple #[.string (mergeR a b).1, .int .i64 (mergeR a b).2]) ∧ Below w.heap.size w w' := by
  unfold mergeR
  by_cases h : wrong a = 0
  · rw [if_neg (by simpa using h)]
    by_cases hb : wrong b = 0
    · rw [if_neg (by simpa using hb)]
      have hR := rmerge_good a b w hz h hz2 hb (mergeOf (readS a) (readS b)).bytes (fun hm => rlay_ok _ (merge_ok (read_ok a h).1 hm))
      by_cases hm : mayMerge (readS a) (readS b)
      · rw [if_pos hm]
        exact hR.mono fun e w' he => he.2 hm
      · rw [if_neg hm]
        exact hR.mono fun e w' he => he.1 hm
    · rw [if_pos hb]
      exact rmerge_wrong2 a b w hz h hz2 hb
  · rw [if_pos h]
    exact rmerge_wrong a b w hz h
end Go.Proofs.Ytdkkfhlijapbeaa
