/- The deed of box.Split, walked. -/
import Derived.Test.YtbbkinldfpphdaaGreatDoorB3
namespace Go.Proofs.YtbbkinldfpphdaaGreatDoor
open Go.RowKit Pl

theorem bytes_cut {w : World} {g : Nat} {l : List UInt8} (h : Bf w g l) (off n c : Nat) (hn : off + n ≤ l.length) :
    (convert 24 9 (.slice (some ⟨g, off, none⟩) n c)).run Tryz.prog w = .ok (.string ⟨((l.drop off).take n).toArray⟩) w := by
  rw [← strOf_bytes]
  refine run_convert_bytes_arg w 24 5 Tryz.underlying24 Tryz.underlying5 g off n c (((l.drop off).take n).map fun b => (b.toNat : Int)) (by simp; omega) (fun i hi => ?_) 9 Tryz.underlying9
  have hlt : off + i < l.length := by omega
  rw [h.cell (off + i) hlt]
  simp [List.getD_eq_getElem?_getD, hi, List.getElem?_eq_getElem hlt]

/-- The two segments that one becomes. -/
def splitA (x : Sg) (k : Nat) : Sg := { x with data := x.data.extract 0 k, fin := false }
def splitZ (x : Sg) (k : Nat) : Sg := { x with data := x.data.extract k x.data.size, seq := plusN x.seq k }

set_option maxHeartbeats 1000000 in
theorem split_bad (B : World) (p : Nat) (at_ : Int) (x : Sg) (hp : At B p 3 [.int .i64 at_]) (hx : x.Ok) (h : x.syn = true ∨ x.rst = true ∨ at_ < 1 ∨ (x.data.size : Int) ≤ at_) :
    Does 30 #[.pointer (some ⟨p, 0, none⟩)] B x (GiveNot 2) := by
  intro W hBW
  have hpW := hp.kept hBW
  obtain ⟨src, dst, seq, ack, syn, ackOn, fin, rst, win, area, data⟩ := x
  clear hp hBW
  unfold Sg.v
  simp only [List.append_toArray, List.cons_append, List.nil_append]
  have h7 := hx.h7
  clear hx
  simp only at h h7
  have hp1 := hpW.alloc (.cells #[.int .i64 0, .int .u16 src, .int .u16 dst, .int .u32 seq, .int .u32 ack, .bool syn, .bool ackOn, .bool fin, .bool rst, .int .u16 win, .string area, .string data] 29)
  have hx1 := At.of_new W 29 #[.int .i64 0, .int .u16 src, .int .u16 dst, .int .u32 seq, .int .u32 ack, .bool syn, .bool ackOn, .bool fin, .bool rst, .int .u16 win, .string area, .string data]
  have e1 : (syn || rst) = true → (syn || rst) = true := id
  go_enter Tryz.func30, Tryz.ntmps30
  go_wp2_with fail
  refine (bound_any _ _ _ _ _ _ _ _ _ _ _ _ _).mono ?_
  rintro e w1 ⟨rfl, hb1⟩
  have c1 := (hp1.kept hb1).cell 0
  have c2 := (hx1.kept hb1).cell 11
  have HB := Lib.hid (allocThen (Below.refl _ W) hb1)
  simp only [List.getElem?_cons_zero, List.getElem?_cons_succ] at c1 c2
  clear hp1 hx1 hb1 hpW e1
  by_cases hb : (syn || rst) = true
  · rw [hb]
    go_wp2
    go_ret2
    exact ⟨rfl, HB.out⟩
  · have hb' : (syn || rst) = false := by simpa using hb
    have h' : at_ < 1 ∨ (data.size : Int) ≤ at_ := by
      rcases h with h | h | h
      · simp [h] at hb'
      · simp [h] at hb'
      · exact h
    rw [hb']
    by_cases h1 : at_ < 1
    · have e1 : decide (at_ < 1) = true := by simp; omega
      go_wp2
      go_ret2
      exact ⟨rfl, HB.out⟩
    · have e1 : decide (at_ < 1) = false := by simp; omega
      have e2 : decide ((data.size : Int) ≤ at_) = true := by simp; omega
      go_wp2
      go_ret2
      exact ⟨rfl, HB.out⟩

/-- Where the call stands in its drawn region. -/
def SS (p g k : Nat) (l : List UInt8) (w : World) : Prop := w.cell? ⟨p, 0, none⟩ = some (.int .i64 k) ∧ Bf w g l
theorem SS.drew {p g k : Nat} {l : List UInt8} {w : World} (h : SS p g k l w) : SS p g k l w.drew := h
theorem SS.far {p g k : Nat} {l : List UInt8} {w : World} (h : SS p g k l w) {b i : Nat} (hp : p ≠ b) (hg : g ≠ b) (u : Value) : SS p g k l (w.setCell ⟨b, i, none⟩ u) :=
  ⟨(World.cell?_of_block (Below.heap_setCell w ⟨b, i, none⟩ u p hp)).trans h.1, h.2.far hg u⟩

set_option maxRecDepth 20000 in
set_option maxHeartbeats 4000000 in
theorem split_good (B : World) (p k : Nat) (x : Sg) (hp : At B p 3 [.int .i64 k]) (hx : x.Ok) (hs : x.syn = false) (hr : x.rst = false) (h1 : 1 ≤ k) (h : k < x.data.size) :
    Does 30 #[.pointer (some ⟨p, 0, none⟩)] B x (GiveTwo (splitA x k) (splitZ x k)) := by
  intro W hBW
  have hpW := hp.kept hBW
  obtain ⟨src, dst, seq, ack, syn, ackOn, fin, rst, win, area, data⟩ := x
  clear hp hBW
  unfold Sg.v
  simp only [List.append_toArray, List.cons_append, List.nil_append]
  have h7 := hx.h7
  have h2 := hx.h2
  clear hx
  simp only at h h7 h2 hs hr
  subst hs hr
  have hp1 := hpW.alloc (.cells #[.int .i64 0, .int .u16 src, .int .u16 dst, .int .u32 seq, .int .u32 ack, .bool false, .bool ackOn, .bool fin, .bool false, .int .u16 win, .string area, .string data] 29)
  have hx1 := At.of_new W 29 #[.int .i64 0, .int .u16 src, .int .u16 dst, .int .u32 seq, .int .u32 ack, .bool false, .bool ackOn, .bool fin, .bool false, .int .u16 win, .string area, .string data]
  have hpl := hpW.lt
  go_enter Tryz.func30, Tryz.ntmps30
  go_wp2_with fail
  refine (bound_any _ _ _ _ _ _ _ _ _ _ _ _ _).mono ?_
  rintro e w1 ⟨rfl, hb1⟩
  have hp2 := hp1.kept hb1
  have hx2 := hx1.kept hb1
  have hB1 := allocThen (Below.refl _ W) hb1
  obtain ⟨c, V, hV, hBf, hbV, hsz, hcap⟩ := bytes_conv' w1 data
  have hp3 := hp2.kept hbV
  have hx3 := hx2.kept hbV
  have hB3 := hB1.trans (hbV.mono hB1.size)
  have c1 := hp2.cell 0
  have c2 := hx2.cell 11
  have c3 := hp3.cell 0
  obtain ⟨fx, d0, d1, d2, d3, d4, d5, d6, d7, d8, d9, d10, d11⟩ := hx3.cells12
  simp only [List.getElem?_cons_zero, List.getElem?_cons_succ] at c1 c2 c3
  have e1 : decide ((k : Int) < 1) = false := by simp; omega
  have e2 : decide ((data.size : Int) ≤ (k : Int)) = false := by simp; omega
  have hXl := hx2.lt
  have i0 : (0 : Int) ≤ (k : Int) := by omega
  have i1 : (k : Int) ≤ (c : Int) := by omega
  have i2 : (k : Int) ≤ (data.size : Int) := by omega
  have i3 : k ≠ c := by omega
  have i4 : ¬ k = c := by omega
  have i5 : ¬ c = k := by omega
  obtain ⟨a, ea⟩ : ∃ a, data.extract 0 k = a := ⟨_, rfl⟩
  obtain ⟨z, ez⟩ : ∃ z, data.extract k data.size = z := ⟨_, rfl⟩
  have CA : ∀ w', Bf w' w1.heap.size data.data.toList → (convert 24 9 (.slice (some ⟨w1.heap.size, 0, none⟩) k k)).run Tryz.prog w' = .ok (.string a) w' := fun w' hb => by
    rw [bytes_cut hb 0 k k (by rw [bytes_len]; omega), ← ea]
    exact congrArg (fun s => Result.ok (Value.string s) w') (ba_ext (by rw [cut_data, cutL, List.drop_take]; rfl))
  have CZ : ∀ w', Bf w' w1.heap.size data.data.toList → (convert 24 9 (.slice (some ⟨w1.heap.size, k, none⟩) (data.size - k) (c - k))).run Tryz.prog w' = .ok (.string z) w' := fun w' hb => by
    rw [bytes_cut hb k (data.size - k) (c - k) (by rw [bytes_len]; omega), ← ez]
    exact congrArg (fun s => Result.ok (Value.string s) w') (ba_ext (by rw [cut_data, cutL, List.drop_take]))
  have HA := Lib.hid ea
  have HZ := Lib.hid ez
  have HBf := Lib.hid hBf
  have HX := Lib.hid hx3
  have HB := Lib.hid hB3
  have hVs : w1.heap.size < V.heap.size := by omega
  clear ea ez hBf hx3 hB3 hbV hp3 hx2 hp2 hx1 hp1 hsz hb1 hB1 hpW
  go_upto_region 5 with fail
  obtain ⟨W5, hW5⟩ : ∃ W5, V.alloc (.cells #[.int .i64 0, .int .u16 src, .int .u16 dst, .int .u32 seq, .int .u32 ack, .bool false, .bool ackOn, .bool fin, .bool false, .int .u16 win, .string area, .string data] 29) = W5 := ⟨_, rfl⟩
  rw [hW5]
  have hpV : p < V.heap.size := by omega
  have HS : SS p w1.heap.size k data.data.toList W5 := by rw [← hW5]; exact ⟨(World.cell?_of_block (Below.heap_alloc V _ p hpV)).trans c3, HBf.out.alloc _⟩
  have HX5 : At W5 W.heap.size 29 [.int .i64 0, .int .u16 src, .int .u16 dst, .int .u32 seq, .int .u32 ack, .bool false, .bool ackOn, .bool fin, .bool false, .int .u16 win, .string area, .string data] := by rw [← hW5]; exact HX.out.alloc _
  have HY5 : At W5 V.heap.size 29 [.int .i64 0, .int .u16 src, .int .u16 dst, .int .u32 seq, .int .u32 ack, .bool false, .bool ackOn, .bool fin, .bool false, .int .u16 win, .string area, .string data] := by rw [← hW5]; exact At.of_new _ _ _
  have HB5 : Below W.heap.size W W5 := by rw [← hW5]; exact HB.out.alloc HB.out.size _
  have hXV : W.heap.size < V.heap.size := by omega
  have x1 := HX5.cell 11
  have x2 := HX5.frozen 11
  have y1 := HY5.cell 11
  have y2 := HY5.frozen 11
  simp only [List.getElem?_cons_zero, List.getElem?_cons_succ] at x1 y1
  have nXY : V.heap.size ≠ W.heap.size := by omega
  have nYX : W.heap.size ≠ V.heap.size := by omega
  have HSh := Lib.hid HS
  have HX6 := Lib.hid HX5
  have HY6 := Lib.hid HY5
  have HB6 := Lib.hid HB5
  have hpX : p ≠ W.heap.size := by omega
  have hpY : p ≠ V.heap.size := by omega
  have hgX : w1.heap.size ≠ W.heap.size := by omega
  have hgY : w1.heap.size ≠ V.heap.size := by omega
  clear HS HX5 HY5 HB5 hW5 d0 d1 d2 d3 d4 d5 d6 d7 d8 d9 d10 d11 fx c1 c2 c3 hV HX HB HBf
  refine wp_region_order 13 [(0, true), (1, true), (2, true), (3, true), (4, true), (5, true), (6, true), (7, true), (8, true), (9, true), (10, false), (11, true), (12, false)] (SS p w1.heap.size k data.data.toList) (by kernel_rfl) (by kernel_rfl) (by kernel_rfl) rfl (by kernel_rfl) (fun _ _ _ _ _ h => h) HSh.out.drew ?_
  iterate 10
    refine walkG_val (v := ?_) rfl (by rfl) (fun w' hS => ?_) ?_
    rotate_left
    · have s1 := hS.1
      have s2 := CA w' hS.2
      have s3 := CZ w' hS.2
      clear hS
      go_simp
      exact rfl
    simp only [Act.put, List.setIfInBounds_toArray, List.set_cons_zero, List.set_cons_succ]
  refine walkG_do rfl (by rfl) ?_
  go_simp
  refine ⟨HSh.out.drew.far hpX hgX _, ?_⟩
  iterate 1
    refine walkG_val (v := ?_) rfl (by rfl) (fun w' hS => ?_) ?_
    rotate_left
    · have s1 := hS.1
      have s2 := CA w' hS.2
      have s3 := CZ w' hS.2
      clear hS
      go_simp
      exact rfl
    simp only [Act.put, List.setIfInBounds_toArray, List.set_cons_zero, List.set_cons_succ]
  refine walkG_do rfl (by rfl) ?_
  go_simp
  refine ⟨(HSh.out.drew.far hpX hgX _).far hpY hgY _, ?_⟩
  simp only [walkG]
  have hX7 := (HX6.out.set_ 11 (.string a)).far (p := ⟨V.heap.size, 11, none⟩) nYX (.string z)
  have hY7 := (HY6.out.far (p := ⟨W.heap.size, 11, none⟩) nXY (.string a)).set_ 11 (.string z)
  have hB7 := (HB6.out.setCell (p := ⟨W.heap.size, 11, none⟩) (Nat.le_refl _) (.string a)).setCell (p := ⟨V.heap.size, 11, none⟩) (Nat.le_of_lt hXV) (.string z)
  have hp7 := ((HSh.out.far hpX hgX (i := 11) (.string a)).far hpY hgY (i := 11) (.string z)).1
  simp only [List.set_cons_succ, List.set_cons_zero] at hX7 hY7
  obtain ⟨W8, hW8⟩ : ∃ W8, ((W5.setCell ⟨W.heap.size, 11, none⟩ (.string a)).setCell ⟨V.heap.size, 11, none⟩ (.string z)).drew = W8 := ⟨_, rfl⟩
  have hX8 : At W8 W.heap.size 29 [.int .i64 0, .int .u16 src, .int .u16 dst, .int .u32 seq, .int .u32 ack, .bool false, .bool ackOn, .bool fin, .bool false, .int .u16 win, .string area, .string a] := by rw [← hW8]; exact hX7
  have hY8 : At W8 V.heap.size 29 [.int .i64 0, .int .u16 src, .int .u16 dst, .int .u32 seq, .int .u32 ack, .bool false, .bool ackOn, .bool fin, .bool false, .int .u16 win, .string area, .string z] := by rw [← hW8]; exact hY7
  have hB8 : Below W.heap.size W W8 := by rw [← hW8]; exact hB7.drew
  have hp8 : W8.cell? ⟨p, 0, none⟩ = some (.int .i64 k) := by rw [← hW8]; exact hp7
  rw [hW8]
  clear hW8 hX7 hY7 hB7 hp7 HX6 HY6 HB6 HSh x1 x2 y1 y2 CA CZ
  obtain ⟨fx, d0, d1, d2, d3, d4, d5, d6, d7, d8, d9, d10, d11⟩ := hX8.cells12
  obtain ⟨fy, b0, b1, b2, b3, b4, b5, b6, b7, b8, b9, b10, b11⟩ := hY8.cells12
  have HX9 := Lib.hid (hX8.set_ 7 (.bool false))
  have HY9 := Lib.hid (hY8.far (p := ⟨W.heap.size, 7, none⟩) nXY (.bool false))
  have HB9 := Lib.hid (hB8.setCell (p := ⟨W.heap.size, 7, none⟩) (Nat.le_refl _) (.bool false))
  clear hX8 hY8 hB8
  go_wp2_with fail
  refine (plus_any seq k _).mono ?_
  rintro e w2 ⟨rfl, rfl⟩
  have HX10 := Lib.hid (HX9.out.far (p := ⟨V.heap.size, 3, none⟩) nYX (.int .u32 (plusN seq k : Nat)))
  have HY10 := Lib.hid (HY9.out.set_ 3 (.int .u32 (plusN seq k : Nat)))
  have HB10 := Lib.hid (HB9.out.setCell (p := ⟨V.heap.size, 3, none⟩) (Nat.le_of_lt hXV) (.int .u32 (plusN seq k : Nat)))
  clear HX9 HY9 HB9
  go_upto_region 8 with fail
  obtain ⟨W10, hW10⟩ : ∃ W10, (W8.setCell ⟨W.heap.size, 7, none⟩ (.bool false)).setCell ⟨V.heap.size, 3, none⟩ (.int .u32 (plusN seq k : Nat)) = W10 := ⟨_, rfl⟩
  rw [hW10] at HX10 HY10 HB10 ⊢
  clear hW10 fx d0 d1 d2 d3 d4 d5 d6 d7 d8 d9 d10 d11 fy b0 b1 b2 b3 b4 b5 b6 b7 b8 b9 b10 b11 hp8
  have hX := HX10.out
  have hY := HY10.out
  simp only [List.set_cons_succ, List.set_cons_zero] at hX hY
  obtain ⟨fx, d0, d1, d2, d3, d4, d5, d6, d7, d8, d9, d10, d11⟩ := hX.cells12
  obtain ⟨fy, b0, b1, b2, b3, b4, b5, b6, b7, b8, b9, b10, b11⟩ := hY.cells12
  clear hX hY HX10 HY10
  go_wp2
  go_ret2
  refine ⟨_, rfl, ?_, HB10.out.alloc HB10.out.size _⟩
  unfold splitA splitZ Sg.cs
  rw [HA.out, HZ.out]
  exact At.of_new _ _ _
end Go.Proofs.YtbbkinldfpphdaaGreatDoor
