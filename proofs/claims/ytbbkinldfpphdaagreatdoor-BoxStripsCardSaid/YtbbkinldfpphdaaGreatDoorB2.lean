/- box.done, walked: what becomes of a segment's bytes by a deed. -/
import Derived.Test.YtbbkinldfpphdaaGreatDoorB1
import Derived.Laws.AppendOwn
import Derived.OwnWalk
import Derived.WideLaws
namespace Go.Proofs.YtbbkinldfpphdaaGreatDoor
open Go.RowKit Pl

/-- A slice of texts. -/
def Strs (w : World) (v : Value) (ts : List ByteArray) : Prop := ∃ g cap, v = .slice (some ⟨g, 0, none⟩) ts.length cap ∧ ∀ i t, ts[i]? = some t → w.cell? ⟨g, i, none⟩ = some (.string t)
/-- A slice of texts, and no error. -/
def GiveS (ts : List ByteArray) (w : World) (e : Ending) (w' : World) : Prop := ∃ v, e = .returned (.tuple #[v, .int .i64 0]) ∧ Strs w' v ts ∧ Below w.heap.size w w'
/-- A slice of one segment, and no error. -/
def GiveOne (y : Sg) (w : World) (e : Ending) (w' : World) : Prop := ∃ g, e = .returned (.tuple #[.slice (some ⟨g, 0, none⟩) 1 1, .int .i64 0]) ∧ At w' g 29 y.cs ∧ Below w.heap.size w w'
def GiveTwo (y z : Sg) (w : World) (e : Ending) (w' : World) : Prop := ∃ g, e = .returned (.tuple #[.slice (some ⟨g, 0, none⟩) 2 2, .int .i64 0]) ∧ At w' g 29 (y.cs ++ z.cs) ∧ Below w.heap.size w w'
def GiveNot (k : Nat) (w : World) (e : Ending) (w' : World) : Prop := e = .returned (.tuple #[.slice none 0 0, .int .i64 k]) ∧ Below w.heap.size w w'
/-- A deed, from a world on. -/
def Does (f : FuncId) (caps : Array Value) (B : World) (x : Sg) (post : World → Ending → World → Prop) : Prop :=
  ∀ W, Below B.heap.size B W → Calls Tryz.prog f (#[x.v] ++ caps) W (post W)
def Enters (f : FuncId) : Prop := ∀ args w, (callFunc f args).run Tryz.prog w = .ok (.enter f args) w

theorem own_kept {w w' : World} {base n size : Nat} {e : TypeId} {v : Value} {xs : List Value} (h : w.ownsRow base e size v n xs) (hb : Below w.heap.size w w') : w'.ownsRow base e size v n xs :=
  h.kept (row := none) ⟨hb.os, hb.tape, hb.output, hb.size, fun k hk _ => hb.block k hk⟩ (by cases hv : v.ownBlock <;> simp)
theorem info_str : (Tryz.prog.info? 9).map (fun i => (i.zero, i.size, i.bytes)) = some (some (.string ⟨#[]⟩), 1, 16) := by kernel_rfl

theorem done_wrong (s : ByteArray) (v : Value) (w : World) (hz : s.size ≤ 9223372036854775807) (h : wrong s ≠ 0) :
    Calls Tryz.prog 24 #[.string s, v] w (GiveNot (wrong s) w) := by
  have HP := Lib.hid (parse_no s hz h)
  obtain ⟨k, hk⟩ : ∃ k, wrong s = k := ⟨_, rfl⟩
  rw [hk] at HP h ⊢
  have h1 : ((k : Int) == 0) = false := by simp; omega
  have h2 : ((k : Int) != 0) = true := by simp; omega
  clear hk h
  go_enter Tryz.func24, Tryz.ntmps24
  go_wp2_with fail
  refine (HP.out _).mono ?_
  unfold Sg.v noS
  rintro e w1 ⟨rfl, hb1⟩
  go_wp2_with fail
  go_ret2
  exact ⟨rfl, hb1.alloc hb1.size _⟩

set_option maxRecDepth 20000 in
set_option maxHeartbeats 1000000 in
theorem done_not (s : ByteArray) (f : FuncId) (caps : Array Value) (k : Nat) (w : World) (hz : s.size ≤ 9223372036854775807) (h : wrong s = 0) (hen : Enters f) (_hk : k ≠ 0)
    (hd : Does f caps w (readS s) (GiveNot k)) :
    Calls Tryz.prog 24 #[.string s, .func (.func f) #[] caps] w (GiveNot k w) := by
  have HP := Lib.hid (parse_ok s hz h)
  have HD := Lib.hid hd
  clear hd
  obtain ⟨x, hx⟩ : ∃ x, readS s = x := ⟨_, rfl⟩
  rw [hx] at HP HD
  clear hx h
  obtain ⟨src, dst, seq, ack, syn, ackOn, fin, rst, win, area, data⟩ := x
  unfold Enters at hen
  go_enter Tryz.func24, Tryz.ntmps24
  go_wp2_with fail
  refine (HP.out _).mono ?_
  unfold Sg.v
  rintro e w1 ⟨rfl, hb1⟩
  go_wp2_with fail
  refine (HD.out _ (hb1.alloc hb1.size _)).mono ?_
  rintro e w2 ⟨rfl, hb2⟩
  have HB := Lib.hid (allocThen hb1 hb2)
  clear hb1 hb2
  go_wp2_with fail
  refine wp_loop_rounds 1 ?_
  rw [rounds_succ]
  go_wp2_with fail
  go_ret2
  exact ⟨rfl, HB.out⟩

set_option maxRecDepth 20000 in
set_option maxHeartbeats 2000000 in
theorem done_one (s : ByteArray) (f : FuncId) (caps : Array Value) (y : Sg) (w : World) (hz : s.size ≤ 9223372036854775807) (h : wrong s = 0) (hen : Enters f) (hy : y.Ok)
    (hd : Does f caps w (readS s) (GiveOne y)) :
    Calls Tryz.prog 24 #[.string s, .func (.func f) #[] caps] w (GiveS [y.bytes] w) := by
  have HP := Lib.hid (parse_ok s hz h)
  have HD := Lib.hid hd
  have HL := Lib.hid (lay_ok y hy)
  clear hd hy
  obtain ⟨x, hx⟩ : ∃ x, readS s = x := ⟨_, rfl⟩
  rw [hx] at HP HD
  obtain ⟨t, ht⟩ : ∃ t, y.bytes = t := ⟨_, rfl⟩
  rw [ht] at HL ⊢
  clear hx h ht
  obtain ⟨src, dst, seq, ack, syn, ackOn, fin, rst, win, area, data⟩ := x
  obtain ⟨ysrc, ydst, yseq, yack, ysyn, yackOn, yfin, yrst, ywin, yarea, ydata⟩ := y
  unfold Enters at hen
  obtain ⟨i0, hi, hz0, hz1, hz2⟩ := info_parts info_str
  go_enter Tryz.func24, Tryz.ntmps24
  go_wp2_with fail
  refine (HP.out _).mono ?_
  unfold Sg.v
  rintro e w1 ⟨rfl, hb1⟩
  go_wp2_with fail
  refine (HD.out _ (hb1.alloc hb1.size _)).mono ?_
  rintro e w2 ⟨g, rfl, hA, hb2⟩
  have HB := Lib.hid (allocThen hb1 hb2)
  unfold Sg.cs at hA
  clear hb1 hb2
  obtain ⟨fz, d0, d1, d2, d3, d4, d5, d6, d7, d8, d9, d10, d11⟩ := hA.cells12
  clear hA
  go_wp2_with fail
  refine wp_loop_rounds 2 ?_
  rw [rounds_succ]
  go_wp2_with fail
  refine (HL.out _).mono ?_
  rintro e w3 ⟨rfl, hb3⟩
  have HB3 := Lib.hid (allocThen HB.out hb3)
  clear hb3 fz d0 d1 d2 d3 d4 d5 d6 d7 d8 d9 d10 d11
  go_wp2_with (at_builtin; refine wpList_append_own _ rfl _ _ 70 rfl w.heap.size 9 i0 (.string ⟨#[]⟩) 1 16 Tryz.underlying70 hi hz0 hz1 hz2 rfl (by decide) _ _ _ rfl (World.ownsRow_nil _ _ _ _) ⟨w3.heap.size, 0, none⟩ 1 1 [.string t] rfl rfl ?c1 ?c2 ?c3 ?c4 ?c5 ?_)
  case c1 =>
    intro j' u hu
    cases j' with
    | zero => simp at hu; subst hu; exact (At.of_new w3 _ _).cell 0
    | succ _ => simp at hu
  case c2 => intro u hu; simp at hu; subst hu; rfl
  case c3 => exact (by simp [maxLen])
  case c4 => omega
  case c5 => have := HB3.out.size; simp; omega
  intro v' w4 hown' hgrow _
  have HB4 := Lib.hid ((HB3.out.alloc HB3.out.size (.cells #[.string t] 9)).grown hgrow (by have := HB3.out.size; simp; omega) (fun k hk => by simp [Value.ownBlock] at hk))
  have HO := Lib.hid hown'
  clear hown' hgrow
  go_wp2_with fail
  rw [rounds_succ]
  go_wp2_with fail
  go_ret2
  refine ⟨v', rfl, ?_, HB4.out⟩
  rcases HO.out.2 with ⟨_, hn⟩ | ⟨g', cap, cur, rfl, _⟩
  · simp at hn
  · refine ⟨g', cap, rfl, fun i u hu => ?_⟩
    have hi1 : i < 1 := (List.getElem?_eq_some_iff.1 hu).1
    obtain rfl : i = 0 := by omega
    simp only [List.getElem?_cons_zero, Option.some.injEq] at hu
    subst hu
    exact HO.out.cellAt 0 (by omega)

set_option maxRecDepth 20000 in
set_option maxHeartbeats 4000000 in
theorem done_two (s : ByteArray) (f : FuncId) (caps : Array Value) (y z : Sg) (w : World) (hz : s.size ≤ 9223372036854775807) (h : wrong s = 0) (hen : Enters f) (hy : y.Ok) (hzk : z.Ok)
    (hd : Does f caps w (readS s) (GiveTwo y z)) :
    Calls Tryz.prog 24 #[.string s, .func (.func f) #[] caps] w (GiveS [y.bytes, z.bytes] w) := by
  have HP := Lib.hid (parse_ok s hz h)
  have HD := Lib.hid hd
  have HL := Lib.hid (lay_ok y hy)
  have HL2 := Lib.hid (lay_ok z hzk)
  clear hd hy hzk
  obtain ⟨x, hx⟩ : ∃ x, readS s = x := ⟨_, rfl⟩
  rw [hx] at HP HD
  obtain ⟨t, ht⟩ : ∃ t, y.bytes = t := ⟨_, rfl⟩
  obtain ⟨t2, ht2⟩ : ∃ t, z.bytes = t := ⟨_, rfl⟩
  rw [ht] at HL ⊢
  rw [ht2] at HL2 ⊢
  clear hx h ht ht2
  obtain ⟨src, dst, seq, ack, syn, ackOn, fin, rst, win, area, data⟩ := x
  obtain ⟨ysrc, ydst, yseq, yack, ysyn, yackOn, yfin, yrst, ywin, yarea, ydata⟩ := y
  obtain ⟨zsrc, zdst, zseq, zack, zsyn, zackOn, zfin, zrst, zwin, zarea, zdata⟩ := z
  unfold Enters at hen
  obtain ⟨i0, hi, hz0, hz1, hz2⟩ := info_parts info_str
  go_enter Tryz.func24, Tryz.ntmps24
  go_wp2_with fail
  refine (HP.out _).mono ?_
  unfold Sg.v
  rintro e w1 ⟨rfl, hb1⟩
  go_wp2_with fail
  refine (HD.out _ (hb1.alloc hb1.size _)).mono ?_
  rintro e w2 ⟨g, rfl, hA, hb2⟩
  have HB := Lib.hid (allocThen hb1 hb2)
  unfold Sg.cs at hA
  clear hb1 hb2
  have HA := Lib.hid hA
  have d0 := hA.cell 0
  have d1 := hA.cell 1
  have d2 := hA.cell 2
  have d3 := hA.cell 3
  have d4 := hA.cell 4
  have d5 := hA.cell 5
  have d6 := hA.cell 6
  have d7 := hA.cell 7
  have d8 := hA.cell 8
  have d9 := hA.cell 9
  have d10 := hA.cell 10
  have d11 := hA.cell 11
  simp only [List.cons_append, List.nil_append, List.getElem?_cons_zero, List.getElem?_cons_succ] at d0 d1 d2 d3 d4 d5 d6 d7 d8 d9 d10 d11
  clear hA
  go_wp2_with fail
  refine wp_loop_rounds 3 ?_
  rw [rounds_succ]
  go_wp2_with fail
  refine (HL.out _).mono ?_
  rintro e w3 ⟨rfl, hb3⟩
  have HA3 := Lib.hid ((HA.out.alloc _).kept hb3)
  have HB3 := Lib.hid (allocThen HB.out hb3)
  clear hb3 HA d0 d1 d2 d3 d4 d5 d6 d7 d8 d9 d10 d11
  go_wp2_with (at_builtin; refine wpList_append_own _ rfl _ _ 70 rfl w.heap.size 9 i0 (.string ⟨#[]⟩) 1 16 Tryz.underlying70 hi hz0 hz1 hz2 rfl (by decide) _ _ _ rfl (World.ownsRow_nil _ _ _ _) ⟨w3.heap.size, 0, none⟩ 1 1 [.string t] rfl rfl ?c1 ?c2 ?c3 ?c4 ?c5 ?_)
  case c1 =>
    intro j' u hu
    cases j' with
    | zero => simp at hu; subst hu; exact (At.of_new w3 _ _).cell 0
    | succ _ => simp at hu
  case c2 => intro u hu; simp at hu; subst hu; rfl
  case c3 => exact (by simp [maxLen])
  case c4 => omega
  case c5 => have := HB3.out.size; simp; omega
  intro v' w4 hown' hgrow _
  have HB4 := Lib.hid ((HB3.out.alloc HB3.out.size (.cells #[.string t] 9)).grown hgrow (by have := HB3.out.size; simp; omega) (fun k hk => by simp [Value.ownBlock] at hk))
  have HA4 := Lib.hid ((HA3.out.alloc (.cells #[.string t] 9)).grown hgrow (by simp [Value.ownBlock]))
  have HO := Lib.hid hown'
  have hA := HA4.out
  clear hown' hgrow HA3
  have d12 := hA.cell 12
  have d13 := hA.cell 13
  have d14 := hA.cell 14
  have d15 := hA.cell 15
  have d16 := hA.cell 16
  have d17 := hA.cell 17
  have d18 := hA.cell 18
  have d19 := hA.cell 19
  have d20 := hA.cell 20
  have d21 := hA.cell 21
  have d22 := hA.cell 22
  have d23 := hA.cell 23
  simp only [List.cons_append, List.nil_append, List.getElem?_cons_zero, List.getElem?_cons_succ] at d12 d13 d14 d15 d16 d17 d18 d19 d20 d21 d22 d23
  clear hA HA4
  go_wp2_with fail
  rw [rounds_succ]
  go_wp2_with fail
  refine (HL2.out _).mono ?_
  rintro e w5 ⟨rfl, hb5⟩
  have HO5 := Lib.hid (own_kept (HO.out.alloc _) hb5)
  have HB5 := Lib.hid (allocThen HB4.out hb5)
  clear hb5 HO d12 d13 d14 d15 d16 d17 d18 d19 d20 d21 d22 d23
  go_wp2_with (at_builtin; refine wpList_append_own _ rfl _ _ 70 rfl w.heap.size 9 i0 (.string ⟨#[]⟩) 1 16 Tryz.underlying70 hi hz0 hz1 hz2 rfl (by decide) _ _ _ rfl (HO5.out.alloc _) ⟨w5.heap.size, 0, none⟩ 1 1 [.string t2] rfl rfl ?e1 ?e2 ?e3 ?e4 ?e5 ?_)
  case e1 =>
    intro j' u hu
    cases j' with
    | zero => simp at hu; subst hu; exact (At.of_new w5 _ _).cell 0
    | succ _ => simp at hu
  case e2 => intro u hu; simp at hu; subst hu; rfl
  case e3 => exact (by simp [maxLen])
  case e4 => omega
  case e5 => have := HB5.out.size; simp; omega
  intro v'' w6 hown' hgrow _
  have HB6 := Lib.hid ((HB5.out.alloc HB5.out.size (.cells #[.string t2] 9)).grown hgrow (by have := HB5.out.size; simp; omega) (fun k hk => (HO5.out.lt k hk).1))
  have HO6 := Lib.hid hown'
  clear hown' hgrow
  go_wp2_with fail
  rw [rounds_succ]
  go_wp2_with fail
  go_ret2
  refine ⟨v'', rfl, ?_, HB6.out⟩
  rcases HO6.out.2 with ⟨_, hn⟩ | ⟨g', cap, cur, rfl, _⟩
  · simp at hn
  · refine ⟨g', cap, rfl, fun i u hu => ?_⟩
    have hi1 : i < 2 := (List.getElem?_eq_some_iff.1 hu).1
    have := HO6.out.cellAt i (by omega)
    rw [this]
    obtain rfl | rfl : i = 0 ∨ i = 1 := by omega
    · simp only [List.getElem?_cons_zero, Option.some.injEq] at hu
      subst hu; rfl
    · simp only [List.getElem?_cons_succ, List.getElem?_cons_zero, Option.some.injEq] at hu
      subst hu; rfl
end Go.Proofs.YtbbkinldfpphdaaGreatDoor
