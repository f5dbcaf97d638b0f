/- head.Lay walked: the bytes of a segment. -/
import Derived.Test.YtbbkinldfpphdaaGreatDoorOf
import Derived.Test.YtbbkinldfpphdaaGreatDoorHd
import Derived.Test.YtbbkinldfpphdaaGreatDoorRg
import Derived.Deep.DeepCutAuto
namespace Go.Proofs.YtbbkinldfpphdaaGreatDoor
open Go.RowKit Pl

def segC (path : Int) (src dst seq ack : Nat) (syn ackOn fin rst : Bool) (win : Nat) (area data : ByteArray) : List Value :=
  [.int .i64 path, .int .u16 src, .int .u16 dst, .int .u32 seq, .int .u32 ack, .bool syn, .bool ackOn, .bool fin, .bool rst, .int .u16 win, .string area, .string data]

theorem lay_bad (path : Int) (src dst seq ack : Nat) (syn ackOn fin rst : Bool) (win : Nat) (area data : ByteArray) (w : World)
    (hs1 : area.size ≤ 9223372036854775807) (hs2 : data.size ≤ 9223372036854775807) (h : 40 < area.size ∨ area.size % 4 ≠ 0 ∨ 1024 < data.size) :
    Calls Tryz.prog 8 #[.agg (segC path src dst seq ack syn ackOn fin rst win area data).toArray] w fun e w' =>
      e = .returned (.tuple #[.string ⟨#[]⟩, .int .i64 6]) ∧ Below w.heap.size w w' := by
  unfold segC
  by_cases h1 : 40 < area.size
  · have d1 : decide (40 < (area.size : Int)) = true := by simp; omega
    go_enter Tryz.func8, Tryz.ntmps8
    go_wp2
    go_ret2
    exact ⟨rfl, (Below.refl _ _).alloc (Nat.le_refl _) _⟩
  · by_cases h2 : area.size % 4 = 0
    · have h3 : 1024 < data.size := by omega
      have d1 : decide (40 < (area.size : Int)) = false := by simp; omega
      have d2 : ((area.size : Int) % 4 == 0) = true := by simp; omega
      have d3 : decide (1024 < (data.size : Int)) = true := by simp; omega
      go_enter Tryz.func8, Tryz.ntmps8
      go_wp2
      go_ret2
      exact ⟨rfl, (Below.refl _ _).alloc (Nat.le_refl _) _⟩
    · have d1 : decide (40 < (area.size : Int)) = false := by simp; omega
      have d2 : ((area.size : Int) % 4 == 0) = false := by simp; omega
      go_enter Tryz.func8, Tryz.ntmps8
      go_wp2
      go_ret2
      exact ⟨rfl, (Below.refl _ _).alloc (Nat.le_refl _) _⟩

/-- Where the call stands: the segment's copy, the twenty bytes, all else as it was. -/
def St (w W : World) (b : Nat) (xs hs : List Value) : Prop := At W b 29 xs ∧ At W (b + 1) 58 hs ∧ Below w.heap.size w W

theorem St.drew {w W : World} {b : Nat} {xs hs : List Value} (h : St w W b xs hs) : St w W.drew b xs hs := ⟨h.1, h.2.1, h.2.2.drew⟩
theorem St.kept {w W W' : World} {b : Nat} {xs hs : List Value} (h : St w W b xs hs) (hb : Below W.heap.size W W') : St w W' b xs hs :=
  ⟨h.1.kept hb, h.2.1.kept hb, h.2.2.trans (hb.mono h.2.2.size)⟩
theorem St.set {w W : World} {b : Nat} {xs hs : List Value} (h : St w W b xs hs) (hb : w.heap.size ≤ b + 1) (i : Nat) (u : Value) : St w (W.setCell ⟨b + 1, i, none⟩ u) b xs (hs.set i u) :=
  ⟨h.1.far (by simp) u, h.2.1.set_ i u, h.2.2.setCell (p := ⟨b + 1, i, none⟩) hb u⟩
def fl (syn ackOn fin rst : Bool) (k : Nat) : Nat :=
  (if 0 < k ∧ fin then 1 else 0) + (if 1 < k ∧ syn then 2 else 0) + (if 2 < k ∧ rst then 4 else 0) + (if 3 < k ∧ ackOn then 16 else 0)
def flim : Nat → Nat
  | 0 => 1 | 1 => 2 | 2 => 4 | 3 => 8 | _ => 32
theorem or_bit (i F : Nat) (hi : i < 8) (hF : F < 2 ^ i) : bits .or .u8 (F : Int) ((2 ^ i : Nat) : Int) = ((F + 2 ^ i : Nat) : Int) := by
  have h2 : 2 ^ i < 256 := Nat.pow_lt_pow_right (by omega) hi
  rw [u8_or_nat F (2 ^ i) (by omega) h2, Nat.or_comm, nat_join i _ _ (Nat.mod_self _) hF, Nat.add_comm]
theorem cells_head (src dst seq ack n F win : Nat) (hn : n ≤ 40) (h4 : n % 4 = 0) (hF : F < 32) :
    putC 2 14 win (((putC 4 8 ack (putC 4 4 seq (putC 2 2 dst (putC 2 0 src (List.replicate 20 (.int .u8 0)))))).set 12 (.int .u8 ((20 + (n : Int)) / 4 * 16))).set 13 (.int .u8 (F : Nat))) = cellsOf (headB src dst seq ack n F win 0) := by
  have e1 : (20 + (n : Int)) / 4 * 16 = ((16 * (5 + n / 4) % 256 : Nat) : Int) := by omega
  have e2 : F % 256 = F := Nat.mod_eq_of_lt (by omega)
  rw [e1]
  simp [putC, headB, beL, cellsOf, List.replicate, e2]
theorem cells_sum (src dst seq ack n F win sm : Nat) :
    putC 2 16 sm (cellsOf (headB src dst seq ack n F win 0)) = cellsOf (headB src dst seq ack n F win sm) := by
  simp [putC, headB, beL, cellsOf]
theorem keep2 {A B : World} {b : Nat} {x y : Value} (h : A.cell? ⟨b, 10, none⟩ = some x ∧ A.cell? ⟨b, 11, none⟩ = some y) (hb : Below A.heap.size A B) :
    B.cell? ⟨b, 10, none⟩ = some x ∧ B.cell? ⟨b, 11, none⟩ = some y :=
  ⟨(hb.cell (p := ⟨b, 10, none⟩) (block_lt_of_cell h.1)).trans h.1, (hb.cell (p := ⟨b, 11, none⟩) (block_lt_of_cell h.2)).trans h.2⟩
theorem keep2o {A B : World} {b g : Nat} {x y : Value} (h : A.cell? ⟨b, 10, none⟩ = some x ∧ A.cell? ⟨b, 11, none⟩ = some y) (hO : A.grownBy B (some g)) (hg : b ≠ g) :
    B.cell? ⟨b, 10, none⟩ = some x ∧ B.cell? ⟨b, 11, none⟩ = some y :=
  ⟨(World.cell?_of_block (hO.block b (block_lt_of_cell h.1) (by simpa using hg))).trans h.1, (World.cell?_of_block (hO.block b (block_lt_of_cell h.2) (by simpa using hg))).trans h.2⟩

set_option maxRecDepth 20000 in
set_option maxHeartbeats 4000000 in
theorem lay_good (path : Int) (src dst seq ack : Nat) (syn ackOn fin rst : Bool) (win : Nat) (area data : ByteArray) (w : World)
    (h0 : src < 65536) (h1 : dst < 65536) (h2 : seq < 4294967296) (h3 : ack < 4294967296) (h4 : win < 65536) (h5 : area.size ≤ 40) (h6 : area.size % 4 = 0) (h7 : data.size ≤ 1024) :
    Calls Tryz.prog 8 #[.agg (segC path src dst seq ack syn ackOn fin rst win area data).toArray] w fun e w' =>
      e = .returned (.tuple #[.string ⟨(segL src dst seq ack (fl syn ackOn fin rst 4) win area.data.toList data.data.toList).toArray⟩, .int .i64 0]) ∧ Below w.heap.size w w' := by
  have d1 : decide (40 < (area.size : Int)) = false := by simp; omega
  have d2 : ((area.size : Int) % 4 == 0) = true := by simp; omega
  have d3 : decide (1024 < (data.size : Int)) = false := by simp; omega
  unfold segC
  go_enter Tryz.func8, Tryz.ntmps8
  go_wp2
  obtain ⟨W, hW⟩ : ∃ W, ((w.alloc (.cells #[.int .i64 path, .int .u16 src, .int .u16 dst, .int .u32 seq, .int .u32 ack, .bool syn, .bool ackOn, .bool fin, .bool rst, .int .u16 win, .string area, .string data] 29)).alloc
    (.cells #[.int .u8 0, .int .u8 0, .int .u8 0, .int .u8 0, .int .u8 0, .int .u8 0, .int .u8 0, .int .u8 0, .int .u8 0, .int .u8 0, .int .u8 0, .int .u8 0, .int .u8 0, .int .u8 0, .int .u8 0, .int .u8 0, .int .u8 0, .int .u8 0, .int .u8 0, .int .u8 0] 58)) = W := ⟨_, rfl⟩
  have hSt : St w W w.heap.size (segC path src dst seq ack syn ackOn fin rst win area data) (List.replicate 20 (.int .u8 0)) := by
    rw [← hW]
    refine ⟨(At.of_new w _ _).alloc _, ?_, ((Below.refl _ w).alloc (Nat.le_refl _) _).alloc (by simp) _⟩
    have := At.of_new (w.alloc (.cells #[.int .i64 path, .int .u16 src, .int .u16 dst, .int .u32 seq, .int .u32 ack, .bool syn, .bool ackOn, .bool fin, .bool rst, .int .u16 win, .string area, .string data] 29)) 58 (List.replicate 20 (.int .u8 0)).toArray
    simpa using this
  rw [hW]
  have S0 := Lib.hid hSt
  obtain ⟨c0, e0⟩ : ∃ c, List.replicate 20 (Value.int .u8 0) = c := ⟨_, rfl⟩
  rw [e0] at S0
  have L0 : Hid (c0.length = 20) := by rw [← e0]; rfl
  have E0 := Lib.hid e0
  clear hW hSt e0
  refine wp_region_head 4 (fun w' => St w w' w.heap.size (segC path src dst seq ack syn ackOn fin rst win area data) c0) (by kernel_rfl) (by kernel_rfl) S0.out.drew ?_
  simp only [List.take_succ_cons, List.take_zero, List.drop_succ_cons, List.drop_zero]
  clear S0
  refine wpQuiet_val (v := ?_) (by rfl) (fun w' hw' => ?_) ?_
  rotate_left
  · obtain ⟨hx, hh, hb⟩ := hw'
    have hcx := hx.cell
    unfold segC at hcx
    clear hx hb
    go_simp
    exact rfl
  simp only [Act.put, List.setIfInBounds_toArray, List.set_cons_zero, List.set_cons_succ]
  refine wpQuiet_val (v := ?_) (by rfl) (fun w' hw' => ?_) ?_
  rotate_left
  · obtain ⟨hx, hh, hb⟩ := hw'
    have hcx := hx.cell
    unfold segC at hcx
    clear hx hb
    go_simp
    exact rfl
  simp only [Act.put, List.setIfInBounds_toArray, List.set_cons_zero, List.set_cons_succ]
  refine wpQuiet_val (v := ?_) (by rfl) (fun w' hw' => ?_) ?_
  rotate_left
  · obtain ⟨hx, hh, hb⟩ := hw'
    have hcx := hx.cell
    unfold segC at hcx
    clear hx hb
    go_simp
    exact rfl
  simp only [Act.put, List.setIfInBounds_toArray, List.set_cons_zero, List.set_cons_succ]
  refine wpQuiet_val (v := ?_) (by rfl) (fun w' hw' => ?_) ?_
  rotate_left
  · obtain ⟨hx, hh, hb⟩ := hw'
    have hcx := hx.cell
    unfold segC at hcx
    clear hx hb
    go_simp
    exact rfl
  simp only [Act.put, List.setIfInBounds_toArray, List.set_cons_zero, List.set_cons_succ]
  refine wpQuiet_nil ?_
  intro w' hw'
  obtain ⟨hx, hh, hb⟩ := hw'
  have Hx := Lib.hid hx
  have Hh := Lib.hid hh
  have Hb := Lib.hid hb
  clear hx hh hb
  go_wp2_with (go_at_call 18; refine (put_any (w.heap.size + 1) 0 2 2 src _ _ _ Hh.out (by rw [L0.out]; omega) (by omega) (by omega)).mono ?_; rintro e W1 ⟨rfl, hA, hO⟩)
  have S1 : Hid (St w W1 w.heap.size (segC path src dst seq ack syn ackOn fin rst win area data) (putC 2 0 src c0)) := ⟨Hx.out.grown hO (by simp), hA, below_only Hb.out hO Hb.out.size (by omega)⟩
  obtain ⟨c1, e1⟩ : ∃ c, putC 2 0 src c0 = c := ⟨_, rfl⟩
  rw [e1] at S1
  have L1 : Hid (c1.length = 20) := by rw [← e1, putC_length]; exact L0.out
  have E1 := Lib.hid e1
  clear e1 hA hO Hx Hh Hb
  refine wp_region_head 4 (fun w' => St w w' w.heap.size (segC path src dst seq ack syn ackOn fin rst win area data) c1) (by kernel_rfl) (by kernel_rfl) S1.out.drew ?_
  simp only [List.take_succ_cons, List.take_zero, List.drop_succ_cons, List.drop_zero]
  clear S1
  refine wpQuiet_val (v := ?_) (by rfl) (fun w' hw' => ?_) ?_
  rotate_left
  · obtain ⟨hx, hh, hb⟩ := hw'
    have hcx := hx.cell
    unfold segC at hcx
    clear hx hb
    go_simp
    exact rfl
  simp only [Act.put, List.setIfInBounds_toArray, List.set_cons_zero, List.set_cons_succ]
  refine wpQuiet_val (v := ?_) (by rfl) (fun w' hw' => ?_) ?_
  rotate_left
  · obtain ⟨hx, hh, hb⟩ := hw'
    have hcx := hx.cell
    unfold segC at hcx
    clear hx hb
    go_simp
    exact rfl
  simp only [Act.put, List.setIfInBounds_toArray, List.set_cons_zero, List.set_cons_succ]
  refine wpQuiet_val (v := ?_) (by rfl) (fun w' hw' => ?_) ?_
  rotate_left
  · obtain ⟨hx, hh, hb⟩ := hw'
    have hcx := hx.cell
    unfold segC at hcx
    clear hx hb
    go_simp
    exact rfl
  simp only [Act.put, List.setIfInBounds_toArray, List.set_cons_zero, List.set_cons_succ]
  refine wpQuiet_val (v := ?_) (by rfl) (fun w' hw' => ?_) ?_
  rotate_left
  · obtain ⟨hx, hh, hb⟩ := hw'
    have hcx := hx.cell
    unfold segC at hcx
    clear hx hb
    go_simp
    exact rfl
  simp only [Act.put, List.setIfInBounds_toArray, List.set_cons_zero, List.set_cons_succ]
  refine wpQuiet_nil ?_
  intro w' hw'
  obtain ⟨hx, hh, hb⟩ := hw'
  have Hx := Lib.hid hx
  have Hh := Lib.hid hh
  have Hb := Lib.hid hb
  clear hx hh hb
  go_wp2_with (go_at_call 18; refine (put_any (w.heap.size + 1) 2 2 2 dst _ _ _ Hh.out (by rw [L1.out]; omega) (by omega) (by omega)).mono ?_; rintro e W2 ⟨rfl, hA, hO⟩)
  have S2 : Hid (St w W2 w.heap.size (segC path src dst seq ack syn ackOn fin rst win area data) (putC 2 2 dst c1)) := ⟨Hx.out.grown hO (by simp), hA, below_only Hb.out hO Hb.out.size (by omega)⟩
  obtain ⟨c2, e2⟩ : ∃ c, putC 2 2 dst c1 = c := ⟨_, rfl⟩
  rw [e2] at S2
  have L2 : Hid (c2.length = 20) := by rw [← e2, putC_length]; exact L1.out
  have E2 := Lib.hid e2
  clear e2 hA hO Hx Hh Hb
  refine wp_region_head 3 (fun w' => St w w' w.heap.size (segC path src dst seq ack syn ackOn fin rst win area data) c2) (by kernel_rfl) (by kernel_rfl) S2.out.drew ?_
  simp only [List.take_succ_cons, List.take_zero, List.drop_succ_cons, List.drop_zero]
  clear S2
  refine wpQuiet_val (v := ?_) (by rfl) (fun w' hw' => ?_) ?_
  rotate_left
  · obtain ⟨hx, hh, hb⟩ := hw'
    have hcx := hx.cell
    unfold segC at hcx
    clear hx hb
    go_simp
    exact rfl
  simp only [Act.put, List.setIfInBounds_toArray, List.set_cons_zero, List.set_cons_succ]
  refine wpQuiet_val (v := ?_) (by rfl) (fun w' hw' => ?_) ?_
  rotate_left
  · obtain ⟨hx, hh, hb⟩ := hw'
    have hcx := hx.cell
    unfold segC at hcx
    clear hx hb
    go_simp
    exact rfl
  simp only [Act.put, List.setIfInBounds_toArray, List.set_cons_zero, List.set_cons_succ]
  refine wpQuiet_val (v := ?_) (by rfl) (fun w' hw' => ?_) ?_
  rotate_left
  · obtain ⟨hx, hh, hb⟩ := hw'
    have hcx := hx.cell
    unfold segC at hcx
    clear hx hb
    go_simp
    exact rfl
  simp only [Act.put, List.setIfInBounds_toArray, List.set_cons_zero, List.set_cons_succ]
  refine wpQuiet_nil ?_
  intro w' hw'
  obtain ⟨hx, hh, hb⟩ := hw'
  have Hx := Lib.hid hx
  have Hh := Lib.hid hh
  have Hb := Lib.hid hb
  clear hx hh hb
  go_wp2_with (go_at_call 18; refine (put_any (w.heap.size + 1) 4 4 4 seq _ _ _ Hh.out (by rw [L2.out]; omega) (by omega) (by omega)).mono ?_; rintro e W3 ⟨rfl, hA, hO⟩)
  have S3 : Hid (St w W3 w.heap.size (segC path src dst seq ack syn ackOn fin rst win area data) (putC 4 4 seq c2)) := ⟨Hx.out.grown hO (by simp), hA, below_only Hb.out hO Hb.out.size (by omega)⟩
  obtain ⟨c3, e3⟩ : ∃ c, putC 4 4 seq c2 = c := ⟨_, rfl⟩
  rw [e3] at S3
  have L3 : Hid (c3.length = 20) := by rw [← e3, putC_length]; exact L2.out
  have E3 := Lib.hid e3
  clear e3 hA hO Hx Hh Hb
  refine wp_region_head 3 (fun w' => St w w' w.heap.size (segC path src dst seq ack syn ackOn fin rst win area data) c3) (by kernel_rfl) (by kernel_rfl) S3.out.drew ?_
  simp only [List.take_succ_cons, List.take_zero, List.drop_succ_cons, List.drop_zero]
  clear S3
  refine wpQuiet_val (v := ?_) (by rfl) (fun w' hw' => ?_) ?_
  rotate_left
  · obtain ⟨hx, hh, hb⟩ := hw'
    have hcx := hx.cell
    unfold segC at hcx
    clear hx hb
    go_simp
    exact rfl
  simp only [Act.put, List.setIfInBounds_toArray, List.set_cons_zero, List.set_cons_succ]
  refine wpQuiet_val (v := ?_) (by rfl) (fun w' hw' => ?_) ?_
  rotate_left
  · obtain ⟨hx, hh, hb⟩ := hw'
    have hcx := hx.cell
    unfold segC at hcx
    clear hx hb
    go_simp
    exact rfl
  simp only [Act.put, List.setIfInBounds_toArray, List.set_cons_zero, List.set_cons_succ]
  refine wpQuiet_val (v := ?_) (by rfl) (fun w' hw' => ?_) ?_
  rotate_left
  · obtain ⟨hx, hh, hb⟩ := hw'
    have hcx := hx.cell
    unfold segC at hcx
    clear hx hb
    go_simp
    exact rfl
  simp only [Act.put, List.setIfInBounds_toArray, List.set_cons_zero, List.set_cons_succ]
  refine wpQuiet_nil ?_
  intro w' hw'
  obtain ⟨hx, hh, hb⟩ := hw'
  have Hx := Lib.hid hx
  have Hh := Lib.hid hh
  have Hb := Lib.hid hb
  clear hx hh hb
  go_upto_region 8 with (go_at_call 18; refine (put_any (w.heap.size + 1) 8 4 4 ack _ _ _ Hh.out (by rw [L3.out]; omega) (by omega) (by omega)).mono ?_; rintro e W4 ⟨rfl, hA, hO⟩)
  have S4 : Hid (St w W4 w.heap.size (segC path src dst seq ack syn ackOn fin rst win area data) (putC 4 8 ack c3)) := ⟨Hx.out.grown hO (by simp), hA, below_only Hb.out hO Hb.out.size (by omega)⟩
  obtain ⟨c4, e4⟩ : ∃ c, putC 4 8 ack c3 = c := ⟨_, rfl⟩
  rw [e4] at S4
  have L4 : Hid (c4.length = 20) := by rw [← e4, putC_length]; exact L3.out
  have E4 := Lib.hid e4
  clear e4 hA hO Hx Hh Hb
  have hc10 : W4.cell? ⟨w.heap.size, 10, none⟩ = some (.string area) := S4.out.1.cell 10
  obtain ⟨v12, hc12⟩ : ∃ v, W4.cell? ⟨w.heap.size + 1, 12, none⟩ = some v :=
    ⟨c4[12]'(by rw [L4.out]; omega), by rw [S4.out.2.1.cell 12, List.getElem?_eq_getElem (by rw [L4.out]; omega)]⟩
  have hf12 : W4.frozen? ⟨w.heap.size + 1, 12, none⟩ = false := S4.out.2.1.frozen 12
  go_upto_region 9 with fail
  obtain ⟨W5, hW5⟩ : ∃ W5, W4.setCell ⟨w.heap.size + 1, 12, none⟩ (.int .u8 ((20 + (area.size : Int)) / 4 * 16)) = W5 := ⟨_, rfl⟩
  rw [hW5]
  obtain ⟨c5, e5⟩ : ∃ c, c4.set 12 (.int .u8 ((20 + (area.size : Int)) / 4 * 16)) = c := ⟨_, rfl⟩
  have S5 : Hid (St w W5 w.heap.size (segC path src dst seq ack syn ackOn fin rst win area data) c5) := by
    rw [← hW5, ← e5]; exact S4.out.set (by omega) _ _
  have L5 : Hid (c5.length = 20) := by rw [← e5, List.length_set]; exact L4.out
  have E5 := Lib.hid e5
  clear e5 hW5 hc10 hc12 hf12 S4
  go_wp2_with (go_at_call 19; refine (flags_any w.heap.size _ _ S5.out.1).mono ?_; rintro e W6 ⟨rfl, hb6⟩)
  have S6 : Hid (St w W6 w.heap.size (segC path src dst seq ack syn ackOn fin rst win area data) c5) := S5.out.kept hb6
  clear hb6 S5
  have S7 : Hid (St w W6 w.heap.size (segC path src dst seq ack syn ackOn fin rst win area data) (c5.set 13 (.int .u8 (0 : Nat)))) := by
    have e : c5.set 13 (.int .u8 (0 : Nat)) = c5 := by
      rw [← E5.out, ← E4.out, ← E3.out, ← E2.out, ← E1.out, ← E0.out]; rfl
    rw [e]; exact S6
  clear S6
  have j0 : ∀ (x y z u : Addr) (w : World), (Instr.index 62 (.agg #[.pointer (some x), .pointer (some y), .pointer (some z), .pointer (some u)]) (.int .i64 0)).run Tryz.prog w = .ok (.pointer (some x)) w := fun _ _ _ _ _ => by kernel_rfl
  have j1 : ∀ (x y z u : Addr) (w : World), (Instr.index 62 (.agg #[.pointer (some x), .pointer (some y), .pointer (some z), .pointer (some u)]) (.int .i64 1)).run Tryz.prog w = .ok (.pointer (some y)) w := fun _ _ _ _ _ => by kernel_rfl
  have j2 : ∀ (x y z u : Addr) (w : World), (Instr.index 62 (.agg #[.pointer (some x), .pointer (some y), .pointer (some z), .pointer (some u)]) (.int .i64 2)).run Tryz.prog w = .ok (.pointer (some z)) w := fun _ _ _ _ _ => by kernel_rfl
  have j3 : ∀ (x y z u : Addr) (w : World), (Instr.index 62 (.agg #[.pointer (some x), .pointer (some y), .pointer (some z), .pointer (some u)]) (.int .i64 3)).run Tryz.prog w = .ok (.pointer (some u)) w := fun _ _ _ _ _ => by kernel_rfl
  have k0 : ∀ (w : World), (Instr.index 65 (.agg #[.int .u8 1, .int .u8 2, .int .u8 4, .int .u8 16]) (.int .i64 0)).run Tryz.prog w = .ok (.int .u8 1) w := fun _ => by kernel_rfl
  have k1 : ∀ (w : World), (Instr.index 65 (.agg #[.int .u8 1, .int .u8 2, .int .u8 4, .int .u8 16]) (.int .i64 1)).run Tryz.prog w = .ok (.int .u8 2) w := fun _ => by kernel_rfl
  have k2 : ∀ (w : World), (Instr.index 65 (.agg #[.int .u8 1, .int .u8 2, .int .u8 4, .int .u8 16]) (.int .i64 2)).run Tryz.prog w = .ok (.int .u8 4) w := fun _ => by kernel_rfl
  have k3 : ∀ (w : World), (Instr.index 65 (.agg #[.int .u8 1, .int .u8 2, .int .u8 4, .int .u8 16]) (.int .i64 3)).run Tryz.prog w = .ok (.int .u8 16) w := fun _ => by kernel_rfl
  go_loopw [51] (fun i wr => ∃ (k F : Nat), k ≤ 4 ∧ i = .int .i64 (k : Nat) ∧ F < flim k ∧ Hid (F = fl syn ackOn fin rst k) ∧ Hid (St w wr w.heap.size (segC path src dst seq ack syn ackOn fin rst win area data) (c5.set 13 (.int .u8 (F : Nat))))) (fun i _ => 4 - (intOf i).toNat)
  case atStart => exact ⟨0, 0, by omega, rfl, by decide, by simp [fl, Hid], S7⟩
  case round =>
    obtain ⟨k, F, hk, rfl, hF, HF, HS⟩ := hrel
    have hk5 : k = 0 ∨ k = 1 ∨ k = 2 ∨ k = 3 ∨ k = 4 := by omega
    rcases hk5 with rfl | rfl | rfl | rfl | rfl
    · have hF1 : F < 1 := hF
      clear hF hk
      have hcp : wr.cell? ⟨w.heap.size, 7, none⟩ = some (.bool fin) := HS.out.1.cell 7
      by_cases hb : fin = true
      · have hF2 : F + 1 < flim 1 := by show F + 1 < _; simp only [flim]; omega
        have hor : bits .or .u8 (F : Int) 1 = ((F + 1 : Nat) : Int) := or_bit 0 F (by omega) (by omega)
        go_upto_region 13 with fail
        refine wp_region_head 5 (fun w' => St w w' w.heap.size (segC path src dst seq ack syn ackOn fin rst win area data) (c5.set 13 (.int .u8 (F : Nat)))) (by kernel_rfl) (by kernel_rfl) HS.out.drew ?_
        simp only [List.take_succ_cons, List.take_zero, List.drop_succ_cons, List.drop_zero]
        have Hf := Lib.hid hb
        clear HS hcp hb
        refine wpQuiet_val (v := ?_) (by rfl) (fun w' hw' => ?_) ?_
        rotate_left
        · have hc13 : w'.cell? ⟨w.heap.size + 1, 13, none⟩ = some (.int .u8 F) := by rw [hw'.2.1.cell 13, List.getElem?_set_self (by rw [L5.out]; omega)]
          clear hw'
          go_simp
          exact rfl
        simp only [Act.put, List.setIfInBounds_toArray, List.set_cons_zero, List.set_cons_succ]
        refine wpQuiet_val (v := ?_) (by rfl) (fun w' hw' => ?_) ?_
        rotate_left
        · have hc13 : w'.cell? ⟨w.heap.size + 1, 13, none⟩ = some (.int .u8 F) := by rw [hw'.2.1.cell 13, List.getElem?_set_self (by rw [L5.out]; omega)]
          clear hw'
          go_simp
          exact rfl
        simp only [Act.put, List.setIfInBounds_toArray, List.set_cons_zero, List.set_cons_succ]
        refine wpQuiet_val (v := .agg #[.int .u8 1, .int .u8 2, .int .u8 4, .int .u8 16]) (by rfl) (fun w' hw' => ?_) ?_
        · go_simp
          refine (bits_any w').mono ?_
          rintro e w2 ⟨rfl, hb2⟩
          exact ⟨rfl, hw'.kept hb2⟩
        simp only [Act.put, List.setIfInBounds_toArray, List.set_cons_zero, List.set_cons_succ]
        refine wpQuiet_val (v := ?_) (by rfl) (fun w' hw' => ?_) ?_
        rotate_left
        · have hc13 : w'.cell? ⟨w.heap.size + 1, 13, none⟩ = some (.int .u8 F) := by rw [hw'.2.1.cell 13, List.getElem?_set_self (by rw [L5.out]; omega)]
          clear hw'
          go_simp
          exact rfl
        simp only [Act.put, List.setIfInBounds_toArray, List.set_cons_zero, List.set_cons_succ]
        refine wpQuiet_val (v := ?_) (by rfl) (fun w' hw' => ?_) ?_
        rotate_left
        · have hc13 : w'.cell? ⟨w.heap.size + 1, 13, none⟩ = some (.int .u8 F) := by rw [hw'.2.1.cell 13, List.getElem?_set_self (by rw [L5.out]; omega)]
          clear hw'
          go_simp
          exact rfl
        simp only [Act.put, List.setIfInBounds_toArray, List.set_cons_zero, List.set_cons_succ]
        refine wpQuiet_nil ?_
        intro w' hw'
        have hc13 : w'.cell? ⟨w.heap.size + 1, 13, none⟩ = some (.int .u8 F) := by rw [hw'.2.1.cell 13, List.getElem?_set_self (by rw [L5.out]; omega)]
        have hf13 : w'.frozen? ⟨w.heap.size + 1, 13, none⟩ = false := hw'.2.1.frozen 13
        have Hw := Lib.hid hw'
        clear hw'
        go_wp2
        refine ⟨⟨1, F + 1, by omega, rfl, hF2, by show F + 1 = _; rw [HF.out]; simp [fl, Hf.out]; try omega, ?_⟩, by simp [intOf]⟩
        have := Hw.out.set (by omega) 13 (.int .u8 ((F + 1 : Nat) : Int))
        rw [List.set_set] at this
        exact this
      · have hF2 : F < flim 1 := by simp only [flim]; omega
        have hb' : fin = false := by simpa using hb
        go_wp2
        exact ⟨⟨1, F, by omega, rfl, hF2, by show F = _; rw [HF.out]; simp [fl, hb'], HS⟩, by simp [intOf]⟩
    · have hF1 : F < 2 := hF
      clear hF hk
      have hcp : wr.cell? ⟨w.heap.size, 5, none⟩ = some (.bool syn) := HS.out.1.cell 5
      by_cases hb : syn = true
      · have hF2 : F + 2 < flim 2 := by show F + 2 < _; simp only [flim]; omega
        have hor : bits .or .u8 (F : Int) 2 = ((F + 2 : Nat) : Int) := or_bit 1 F (by omega) (by omega)
        go_upto_region 13 with fail
        refine wp_region_head 5 (fun w' => St w w' w.heap.size (segC path src dst seq ack syn ackOn fin rst win area data) (c5.set 13 (.int .u8 (F : Nat)))) (by kernel_rfl) (by kernel_rfl) HS.out.drew ?_
        simp only [List.take_succ_cons, List.take_zero, List.drop_succ_cons, List.drop_zero]
        have Hf := Lib.hid hb
        clear HS hcp hb
        refine wpQuiet_val (v := ?_) (by rfl) (fun w' hw' => ?_) ?_
        rotate_left
        · have hc13 : w'.cell? ⟨w.heap.size + 1, 13, none⟩ = some (.int .u8 F) := by rw [hw'.2.1.cell 13, List.getElem?_set_self (by rw [L5.out]; omega)]
          clear hw'
          go_simp
          exact rfl
        simp only [Act.put, List.setIfInBounds_toArray, List.set_cons_zero, List.set_cons_succ]
        refine wpQuiet_val (v := ?_) (by rfl) (fun w' hw' => ?_) ?_
        rotate_left
        · have hc13 : w'.cell? ⟨w.heap.size + 1, 13, none⟩ = some (.int .u8 F) := by rw [hw'.2.1.cell 13, List.getElem?_set_self (by rw [L5.out]; omega)]
          clear hw'
          go_simp
          exact rfl
        simp only [Act.put, List.setIfInBounds_toArray, List.set_cons_zero, List.set_cons_succ]
        refine wpQuiet_val (v := .agg #[.int .u8 1, .int .u8 2, .int .u8 4, .int .u8 16]) (by rfl) (fun w' hw' => ?_) ?_
        · go_simp
          refine (bits_any w').mono ?_
          rintro e w2 ⟨rfl, hb2⟩
          exact ⟨rfl, hw'.kept hb2⟩
        simp only [Act.put, List.setIfInBounds_toArray, List.set_cons_zero, List.set_cons_succ]
        refine wpQuiet_val (v := ?_) (by rfl) (fun w' hw' => ?_) ?_
        rotate_left
        · have hc13 : w'.cell? ⟨w.heap.size + 1, 13, none⟩ = some (.int .u8 F) := by rw [hw'.2.1.cell 13, List.getElem?_set_self (by rw [L5.out]; omega)]
          clear hw'
          go_simp
          exact rfl
        simp only [Act.put, List.setIfInBounds_toArray, List.set_cons_zero, List.set_cons_succ]
        refine wpQuiet_val (v := ?_) (by rfl) (fun w' hw' => ?_) ?_
        rotate_left
        · have hc13 : w'.cell? ⟨w.heap.size + 1, 13, none⟩ = some (.int .u8 F) := by rw [hw'.2.1.cell 13, List.getElem?_set_self (by rw [L5.out]; omega)]
          clear hw'
          go_simp
          exact rfl
        simp only [Act.put, List.setIfInBounds_toArray, List.set_cons_zero, List.set_cons_succ]
        refine wpQuiet_nil ?_
        intro w' hw'
        have hc13 : w'.cell? ⟨w.heap.size + 1, 13, none⟩ = some (.int .u8 F) := by rw [hw'.2.1.cell 13, List.getElem?_set_self (by rw [L5.out]; omega)]
        have hf13 : w'.frozen? ⟨w.heap.size + 1, 13, none⟩ = false := hw'.2.1.frozen 13
        have Hw := Lib.hid hw'
        clear hw'
        go_wp2
        refine ⟨⟨2, F + 2, by omega, rfl, hF2, by show F + 2 = _; rw [HF.out]; simp [fl, Hf.out]; try omega, ?_⟩, by simp [intOf]⟩
        have := Hw.out.set (by omega) 13 (.int .u8 ((F + 2 : Nat) : Int))
        rw [List.set_set] at this
        exact this
      · have hF2 : F < flim 2 := by simp only [flim]; omega
        have hb' : syn = false := by simpa using hb
        go_wp2
        exact ⟨⟨2, F, by omega, rfl, hF2, by show F = _; rw [HF.out]; simp [fl, hb'], HS⟩, by simp [intOf]⟩
    · have hF1 : F < 4 := hF
      clear hF hk
      have hcp : wr.cell? ⟨w.heap.size, 8, none⟩ = some (.bool rst) := HS.out.1.cell 8
      by_cases hb : rst = true
      · have hF2 : F + 4 < flim 3 := by show F + 4 < _; simp only [flim]; omega
        have hor : bits .or .u8 (F : Int) 4 = ((F + 4 : Nat) : Int) := or_bit 2 F (by omega) (by omega)
        go_upto_region 13 with fail
        refine wp_region_head 5 (fun w' => St w w' w.heap.size (segC path src dst seq ack syn ackOn fin rst win area data) (c5.set 13 (.int .u8 (F : Nat)))) (by kernel_rfl) (by kernel_rfl) HS.out.drew ?_
        simp only [List.take_succ_cons, List.take_zero, List.drop_succ_cons, List.drop_zero]
        have Hf := Lib.hid hb
        clear HS hcp hb
        refine wpQuiet_val (v := ?_) (by rfl) (fun w' hw' => ?_) ?_
        rotate_left
        · have hc13 : w'.cell? ⟨w.heap.size + 1, 13, none⟩ = some (.int .u8 F) := by rw [hw'.2.1.cell 13, List.getElem?_set_self (by rw [L5.out]; omega)]
          clear hw'
          go_simp
          exact rfl
        simp only [Act.put, List.setIfInBounds_toArray, List.set_cons_zero, List.set_cons_succ]
        refine wpQuiet_val (v := ?_) (by rfl) (fun w' hw' => ?_) ?_
        rotate_left
        · have hc13 : w'.cell? ⟨w.heap.size + 1, 13, none⟩ = some (.int .u8 F) := by rw [hw'.2.1.cell 13, List.getElem?_set_self (by rw [L5.out]; omega)]
          clear hw'
          go_simp
          exact rfl
        simp only [Act.put, List.setIfInBounds_toArray, List.set_cons_zero, List.set_cons_succ]
        refine wpQuiet_val (v := .agg #[.int .u8 1, .int .u8 2, .int .u8 4, .int .u8 16]) (by rfl) (fun w' hw' => ?_) ?_
        · go_simp
          refine (bits_any w').mono ?_
          rintro e w2 ⟨rfl, hb2⟩
          exact ⟨rfl, hw'.kept hb2⟩
        simp only [Act.put, List.setIfInBounds_toArray, List.set_cons_zero, List.set_cons_succ]
        refine wpQuiet_val (v := ?_) (by rfl) (fun w' hw' => ?_) ?_
        rotate_left
        · have hc13 : w'.cell? ⟨w.heap.size + 1, 13, none⟩ = some (.int .u8 F) := by rw [hw'.2.1.cell 13, List.getElem?_set_self (by rw [L5.out]; omega)]
          clear hw'
          go_simp
          exact rfl
        simp only [Act.put, List.setIfInBounds_toArray, List.set_cons_zero, List.set_cons_succ]
        refine wpQuiet_val (v := ?_) (by rfl) (fun w' hw' => ?_) ?_
        rotate_left
        · have hc13 : w'.cell? ⟨w.heap.size + 1, 13, none⟩ = some (.int .u8 F) := by rw [hw'.2.1.cell 13, List.getElem?_set_self (by rw [L5.out]; omega)]
          clear hw'
          go_simp
          exact rfl
        simp only [Act.put, List.setIfInBounds_toArray, List.set_cons_zero, List.set_cons_succ]
        refine wpQuiet_nil ?_
        intro w' hw'
        have hc13 : w'.cell? ⟨w.heap.size + 1, 13, none⟩ = some (.int .u8 F) := by rw [hw'.2.1.cell 13, List.getElem?_set_self (by rw [L5.out]; omega)]
        have hf13 : w'.frozen? ⟨w.heap.size + 1, 13, none⟩ = false := hw'.2.1.frozen 13
        have Hw := Lib.hid hw'
        clear hw'
        go_wp2
        refine ⟨⟨3, F + 4, by omega, rfl, hF2, by show F + 4 = _; rw [HF.out]; simp [fl, Hf.out]; try omega, ?_⟩, by simp [intOf]⟩
        have := Hw.out.set (by omega) 13 (.int .u8 ((F + 4 : Nat) : Int))
        rw [List.set_set] at this
        exact this
      · have hF2 : F < flim 3 := by simp only [flim]; omega
        have hb' : rst = false := by simpa using hb
        go_wp2
        exact ⟨⟨3, F, by omega, rfl, hF2, by show F = _; rw [HF.out]; simp [fl, hb'], HS⟩, by simp [intOf]⟩
    · have hF1 : F < 8 := hF
      clear hF hk
      have hcp : wr.cell? ⟨w.heap.size, 6, none⟩ = some (.bool ackOn) := HS.out.1.cell 6
      by_cases hb : ackOn = true
      · have hF2 : F + 16 < flim 4 := by show F + 16 < _; simp only [flim]; omega
        have hor : bits .or .u8 (F : Int) 16 = ((F + 16 : Nat) : Int) := or_bit 4 F (by omega) (by omega)
        go_upto_region 13 with fail
        refine wp_region_head 5 (fun w' => St w w' w.heap.size (segC path src dst seq ack syn ackOn fin rst win area data) (c5.set 13 (.int .u8 (F : Nat)))) (by kernel_rfl) (by kernel_rfl) HS.out.drew ?_
        simp only [List.take_succ_cons, List.take_zero, List.drop_succ_cons, List.drop_zero]
        have Hf := Lib.hid hb
        clear HS hcp hb
        refine wpQuiet_val (v := ?_) (by rfl) (fun w' hw' => ?_) ?_
        rotate_left
        · have hc13 : w'.cell? ⟨w.heap.size + 1, 13, none⟩ = some (.int .u8 F) := by rw [hw'.2.1.cell 13, List.getElem?_set_self (by rw [L5.out]; omega)]
          clear hw'
          go_simp
          exact rfl
        simp only [Act.put, List.setIfInBounds_toArray, List.set_cons_zero, List.set_cons_succ]
        refine wpQuiet_val (v := ?_) (by rfl) (fun w' hw' => ?_) ?_
        rotate_left
        · have hc13 : w'.cell? ⟨w.heap.size + 1, 13, none⟩ = some (.int .u8 F) := by rw [hw'.2.1.cell 13, List.getElem?_set_self (by rw [L5.out]; omega)]
          clear hw'
          go_simp
          exact rfl
        simp only [Act.put, List.setIfInBounds_toArray, List.set_cons_zero, List.set_cons_succ]
        refine wpQuiet_val (v := .agg #[.int .u8 1, .int .u8 2, .int .u8 4, .int .u8 16]) (by rfl) (fun w' hw' => ?_) ?_
        · go_simp
          refine (bits_any w').mono ?_
          rintro e w2 ⟨rfl, hb2⟩
          exact ⟨rfl, hw'.kept hb2⟩
        simp only [Act.put, List.setIfInBounds_toArray, List.set_cons_zero, List.set_cons_succ]
        refine wpQuiet_val (v := ?_) (by rfl) (fun w' hw' => ?_) ?_
        rotate_left
        · have hc13 : w'.cell? ⟨w.heap.size + 1, 13, none⟩ = some (.int .u8 F) := by rw [hw'.2.1.cell 13, List.getElem?_set_self (by rw [L5.out]; omega)]
          clear hw'
          go_simp
          exact rfl
        simp only [Act.put, List.setIfInBounds_toArray, List.set_cons_zero, List.set_cons_succ]
        refine wpQuiet_val (v := ?_) (by rfl) (fun w' hw' => ?_) ?_
        rotate_left
        · have hc13 : w'.cell? ⟨w.heap.size + 1, 13, none⟩ = some (.int .u8 F) := by rw [hw'.2.1.cell 13, List.getElem?_set_self (by rw [L5.out]; omega)]
          clear hw'
          go_simp
          exact rfl
        simp only [Act.put, List.setIfInBounds_toArray, List.set_cons_zero, List.set_cons_succ]
        refine wpQuiet_nil ?_
        intro w' hw'
        have hc13 : w'.cell? ⟨w.heap.size + 1, 13, none⟩ = some (.int .u8 F) := by rw [hw'.2.1.cell 13, List.getElem?_set_self (by rw [L5.out]; omega)]
        have hf13 : w'.frozen? ⟨w.heap.size + 1, 13, none⟩ = false := hw'.2.1.frozen 13
        have Hw := Lib.hid hw'
        clear hw'
        go_wp2
        refine ⟨⟨4, F + 16, by omega, rfl, hF2, by show F + 16 = _; rw [HF.out]; simp [fl, Hf.out]; try omega, ?_⟩, by simp [intOf]⟩
        have := Hw.out.set (by omega) 13 (.int .u8 ((F + 16 : Nat) : Int))
        rw [List.set_set] at this
        exact this
      · have hF2 : F < flim 4 := by simp only [flim]; omega
        have hb' : ackOn = false := by simpa using hb
        go_wp2
        exact ⟨⟨4, F, by omega, rfl, hF2, by show F = _; rw [HF.out]; simp [fl, hb'], HS⟩, by simp [intOf]⟩
    · have L7 : Hid ((c5.set 13 (.int .u8 (F : Nat))).length = 20) := by rw [List.length_set]; exact L5.out
      obtain ⟨c7, e7⟩ : ∃ c, c5.set 13 (.int .u8 (F : Nat)) = c := ⟨_, rfl⟩
      rw [e7] at HS L7
      have E7 := Lib.hid e7
      have hF32 : F < 32 := hF
      clear e7 hF hk
      go_upto_region 15 with fail
      refine wp_region_head 4 (fun w' => St w w' w.heap.size (segC path src dst seq ack syn ackOn fin rst win area data) c7) (by kernel_rfl) (by kernel_rfl) HS.out.drew ?_
      simp only [List.take_succ_cons, List.take_zero, List.drop_succ_cons, List.drop_zero]
      clear HS
      refine wpQuiet_val (v := ?_) (by rfl) (fun w' hw' => ?_) ?_
      rotate_left
      · obtain ⟨hx, hh, hb⟩ := hw'
        have hcx := hx.cell
        unfold segC at hcx
        clear hx hb
        go_simp
        exact rfl
      simp only [Act.put, List.setIfInBounds_toArray, List.set_cons_zero, List.set_cons_succ]
      refine wpQuiet_val (v := ?_) (by rfl) (fun w' hw' => ?_) ?_
      rotate_left
      · obtain ⟨hx, hh, hb⟩ := hw'
        have hcx := hx.cell
        unfold segC at hcx
        clear hx hb
        go_simp
        exact rfl
      simp only [Act.put, List.setIfInBounds_toArray, List.set_cons_zero, List.set_cons_succ]
      refine wpQuiet_val (v := ?_) (by rfl) (fun w' hw' => ?_) ?_
      rotate_left
      · obtain ⟨hx, hh, hb⟩ := hw'
        have hcx := hx.cell
        unfold segC at hcx
        clear hx hb
        go_simp
        exact rfl
      simp only [Act.put, List.setIfInBounds_toArray, List.set_cons_zero, List.set_cons_succ]
      refine wpQuiet_val (v := ?_) (by rfl) (fun w' hw' => ?_) ?_
      rotate_left
      · obtain ⟨hx, hh, hb⟩ := hw'
        have hcx := hx.cell
        unfold segC at hcx
        clear hx hb
        go_simp
        exact rfl
      simp only [Act.put, List.setIfInBounds_toArray, List.set_cons_zero, List.set_cons_succ]
      refine wpQuiet_nil ?_
      intro w' hw'
      obtain ⟨hx, hh, hb⟩ := hw'
      have Hx := Lib.hid hx
      have Hh := Lib.hid hh
      have Hb := Lib.hid hb
      clear hx hh hb
      go_upto_region 16 with (go_at_call 18; refine (put_any (w.heap.size + 1) 14 2 2 win _ _ _ Hh.out (by rw [L7.out]; omega) (by omega) (by omega)).mono ?_; rintro e W8 ⟨rfl, hA, hO⟩)
      have S8 : Hid (St w W8 w.heap.size (segC path src dst seq ack syn ackOn fin rst win area data) (putC 2 14 win c7)) := ⟨Hx.out.grown hO (by simp), hA, below_only Hb.out hO Hb.out.size (by omega)⟩
      obtain ⟨c8, e8⟩ : ∃ c, putC 2 14 win c7 = c := ⟨_, rfl⟩
      rw [e8] at S8
      have L8 : Hid (c8.length = 20) := by rw [← e8, putC_length]; exact L7.out
      have E8 := Lib.hid e8
      clear e8 hA hO Hx Hh Hb
      have hc8 : c8 = cellsOf (headB src dst seq ack area.size F win 0) := by
        rw [← E8.out, ← E7.out, ← E5.out, ← E4.out, ← E3.out, ← E2.out, ← E1.out, ← E0.out]
        exact cells_head src dst seq ack area.size F win h5 h6 hF32
      subst hc8
      have HF2 := Lib.hid hF32
      clear L0 L1 L2 L3 L4 L5 L7 L8 E0 E1 E2 E3 E4 E5 E7 E8 S7 hF32 j0 j1 j2 j3 k0 k1 k2 k3
      obtain ⟨l8, hl8⟩ : ∃ l, headB src dst seq ack area.size F win 0 = l := ⟨_, rfl⟩
      rw [hl8] at S8
      have l8n : l8.length = 20 := by rw [← hl8]; rfl
      obtain ⟨sm, hsm⟩ : ∃ s, fold (sumL (l8 ++ (area.data.toList ++ data.data.toList))) = s := ⟨_, rfl⟩
      have hsml : sm ≤ 65535 := by rw [← hsm]; exact fold_le _
      have HOf : Hid (∀ (W : World) (pb : Nat) (t : TypeId), At W pb t ([⟨l8.toArray⟩, area, data].map Value.string) →
          Calls Tryz.prog 22 #[.slice (some ⟨pb, 0, none⟩) 3 3] W fun e w' => e = .returned (.int .u16 (sm : Nat)) ∧ Below W.heap.size W w') := by
        intro W pb t hA
        have hfl : flat [⟨l8.toArray⟩, area, data] = l8 ++ (area.data.toList ++ data.data.toList) := by simp [flat]
        have hz1 : area.data.toList.length = area.size := by rw [Array.length_toList]; rfl
        have hz2 : data.data.toList.length = data.size := by rw [Array.length_toList]; rfl
        have := of_any pb 3 3 t [⟨l8.toArray⟩, area, data] W rfl hA (fun s hs => by
          simp only [List.mem_cons, List.not_mem_nil, or_false] at hs
          rcases hs with rfl | rfl | rfl
          · simp [ByteArray.size, l8n]
          · omega
          · omega) (by omega) (by rw [hfl]; simp only [List.length_append]; omega)
        rw [hfl, hsm] at this
        exact this
      obtain ⟨nm, hnm⟩ : ∃ n, 65535 - sm = n := ⟨_, rfl⟩
      have hnl : nm < 65536 := by omega
      have HNot : Hid (∀ W : World, Calls Tryz.prog 21 #[.int .u16 (sm : Nat)] W fun e w' => e = .returned (.int .u16 (nm : Nat)) ∧ W = w') := by
        intro W; rw [← hnm]; exact not_any sm W hsml
      have HPut : Hid (∀ W : World, Below W8.heap.size W8 W → Calls Tryz.prog 18 #[.slice (some ⟨w.heap.size + 1, 16, none⟩) 2 2, .int .u32 (nm : Nat)] W fun e w' =>
          e = .returned (.tuple #[]) ∧ W.grownBy w' (some (w.heap.size + 1)) ∧ St w w' w.heap.size (segC path src dst seq ack syn ackOn fin rst win area data) (cellsOf (headB src dst seq ack area.size F win nm))) := by
        intro W hb
        have hS := S8.out.kept hb
        refine (put_any (w.heap.size + 1) 16 2 2 nm _ _ W hS.2.1 (by simp [cellsOf, l8n]) (by omega) (by omega)).mono ?_
        rintro e w' ⟨rfl, hA, hO⟩
        refine ⟨rfl, hO, hS.1.grown hO (by simp), ?_, below_only hS.2.2 hO hS.2.2.size (by omega)⟩
        rw [← hl8, cells_sum] at hA
        exact hA
      have Hcv : Hid (∀ w', St w w' w.heap.size (segC path src dst seq ack syn ackOn fin rst win area data) (cellsOf l8) → (convert 24 9 (.slice (some ⟨w.heap.size + 1, 0, none⟩) 20 20)).run Tryz.prog w' = .ok (.string ⟨l8.toArray⟩) w') := by
        intro w' hw'
        have := conv_str (P := Tryz.prog) 24 9 5 Tryz.underlying24 Tryz.underlying5 Tryz.underlying9 w' _ _ l8 0 20 20 hw'.2.1 (by omega)
        rw [List.drop_zero, List.take_of_length_le (by omega)] at this
        exact this
      have hwr : IntKind.u32.wrap (nm : Int) = (nm : Int) := by rw [IntKind.wrap_u32']; omega
      have Hl8 := Lib.hid hl8
      have Hsm := Lib.hid hsm
      have Hnm := Lib.hid hnm
      clear hl8 hsm hnm hsml
      refine wp_region_one 7 (fun w' => St w w' w.heap.size (segC path src dst seq ack syn ackOn fin rst win area data) (cellsOf l8) ∧ Below W8.heap.size W8 w') rfl (by kernel_rfl) (by kernel_rfl) ⟨S8.out.drew, (Below.refl _ _).drew⟩ (fun _ _ _ h => h) (by rfl) (v := .slice (some ⟨w.heap.size + 1, 16, none⟩) 2 2) (fun w' => by go_simp) ?_
      simp only [List.take_succ_cons, List.take_zero, List.drop_succ_cons, List.drop_zero, Nat.reduceSub, Act.put, List.setIfInBounds_toArray, List.set_cons_zero, List.set_cons_succ]
      refine wpQuiet_val (v := ?_) (by rfl) (fun w' hw' => ?_) ?_
      rotate_left
      · have hcx := hw'.1.1.cell
        have hcv := Hcv.out w' hw'.1
        unfold segC at hcx
        clear hw'
        go_simp
        exact rfl
      simp only [Act.put, List.setIfInBounds_toArray, List.set_cons_zero, List.set_cons_succ]
      refine wpQuiet_val (v := ?_) (by rfl) (fun w' hw' => ?_) ?_
      rotate_left
      · have hcx := hw'.1.1.cell
        have hcv := Hcv.out w' hw'.1
        unfold segC at hcx
        clear hw'
        go_simp
        exact rfl
      simp only [Act.put, List.setIfInBounds_toArray, List.set_cons_zero, List.set_cons_succ]
      refine wpQuiet_val (v := ?_) (by rfl) (fun w' hw' => ?_) ?_
      rotate_left
      · have hcx := hw'.1.1.cell
        have hcv := Hcv.out w' hw'.1
        unfold segC at hcx
        clear hw'
        go_simp
        exact rfl
      simp only [Act.put, List.setIfInBounds_toArray, List.set_cons_zero, List.set_cons_succ]
      refine wpQuiet_val (v := ?_) (by rfl) (fun w' hw' => ?_) ?_
      rotate_left
      · have hcx := hw'.1.1.cell
        have hcv := Hcv.out w' hw'.1
        unfold segC at hcx
        clear hw'
        go_simp
        exact rfl
      simp only [Act.put, List.setIfInBounds_toArray, List.set_cons_zero, List.set_cons_succ]
      refine wpQuiet_val (v := ?_) (by rfl) (fun w' hw' => ?_) ?_
      rotate_left
      · have hcx := hw'.1.1.cell
        have hcv := Hcv.out w' hw'.1
        unfold segC at hcx
        clear hw'
        go_simp
        exact rfl
      simp only [Act.put, List.setIfInBounds_toArray, List.set_cons_zero, List.set_cons_succ]
      refine wpQuiet_val (v := ?_) (by rfl) (fun w' hw' => ?_) ?_
      rotate_left
      · have hcx := hw'.1.1.cell
        have hcv := Hcv.out w' hw'.1
        unfold segC at hcx
        clear hw'
        go_simp
        exact rfl
      simp only [Act.put, List.setIfInBounds_toArray, List.set_cons_zero, List.set_cons_succ]
      refine wpQuiet_nil ?_
      intro w' hw'
      have Hw := Lib.hid hw'
      clear hw'
      go_wp2_with (first
          | (go_at_call 22; refine (HOf.out _ _ _ (by exact At.of_new _ _ _)).mono ?_; rintro e w2 ⟨rfl, hb2⟩; have hbl : Below W8.heap.size W8 w2 := (Hw.out.2.alloc Hw.out.2.size _).trans (hb2.mono (by have := Hw.out.2.size; simp; omega)))
          | (go_at_call 21; refine (HNot.out _).mono ?_; rintro e w3 ⟨rfl, rfl⟩)
          | (go_at_call 18; refine (HPut.out _ hbl).mono ?_; rintro e w4 ⟨rfl, hO, hS9⟩))
      obtain ⟨l9, hl9⟩ : ∃ l, headB src dst seq ack area.size F win nm = l := ⟨_, rfl⟩
      rw [hl9] at hS9
      have l9n : l9.length = 20 := by rw [← hl9]; rfl
      have hcv9 : ∀ n, (convert 24 9 (.slice (some ⟨w.heap.size + 1, 0, none⟩) 20 20)).run Tryz.prog (w4.drewN n) = .ok (.string ⟨l9.toArray⟩) (w4.drewN n) := by
        intro n
        have := conv_str (P := Tryz.prog) 24 9 5 Tryz.underlying24 Tryz.underlying5 Tryz.underlying9 (w4.drewN n) _ _ l9 0 20 20 (hS9.2.1.drewN n) (by omega)
        rw [List.drop_zero, List.take_of_length_le (by omega)] at this
        exact this
      have hc10 : w4.cell? ⟨w.heap.size, 10, none⟩ = some (.string area) := hS9.1.cell 10
      have hc11 : w4.cell? ⟨w.heap.size, 11, none⟩ = some (.string data) := hS9.1.cell 11
      have hz9 : (⟨l9.toArray⟩ : ByteArray).size = 20 := by simp [ByteArray.size, l9n]
      have hza : ((⟨l9.toArray⟩ : ByteArray) ++ area).size = 20 + area.size := by rw [ByteArray.size_append, hz9]
      have H9 := Lib.hid hS9
      have Hl9 := Lib.hid hl9
      clear hl9 hS9 hO hb2 hbl hwr
      go_wp2
      go_quiet (fail)
      go_wp2
      go_ret2
      refine ⟨?_, below_dn H9.out.2.2 _⟩
      show Ending.returned (.tuple #[.string (⟨l9.toArray⟩ ++ area ++ data), .int .i64 0]) = _
      have e : l9 ++ (area.data.toList ++ data.data.toList) = segL src dst seq ack (fl syn ackOn fin rst 4) win area.data.toList data.data.toList := by
        unfold segL ckS
        rw [bytes_len area, ← Hl9.out, ← Hnm.out, ← Hsm.out, ← Hl8.out, HF.out]
      rw [bytes_join, e]
end Go.Proofs.YtbbkinldfpphdaaGreatDoor
