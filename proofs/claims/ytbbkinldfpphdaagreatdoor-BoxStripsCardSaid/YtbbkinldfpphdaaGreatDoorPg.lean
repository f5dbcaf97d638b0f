/- head.Parse walked: bytes that are a segment. -/
import Derived.Test.YtbbkinldfpphdaaGreatDoorPs
namespace Go.Proofs.YtbbkinldfpphdaaGreatDoor
open Go.RowKit Pl

/-- Where the call stands: the result's variable as it was, the segment, all else as it was. -/
def Sp (w W : World) (g : Nat) (cs : List Value) : Prop := At W w.heap.size 29 zeroC ∧ At W g 29 cs ∧ Below w.heap.size w W
theorem Sp.drew {w W : World} {g : Nat} {cs : List Value} (h : Sp w W g cs) : Sp w W.drew g cs := ⟨h.1, h.2.1, h.2.2.drew⟩
theorem Sp.kept {w W W' : World} {g : Nat} {cs : List Value} (h : Sp w W g cs) (hb : Below W.heap.size W W') : Sp w W' g cs :=
  ⟨h.1.kept hb, h.2.1.kept hb, h.2.2.trans (hb.mono h.2.2.size)⟩
theorem Sp.set {w W : World} {g : Nat} {cs : List Value} (h : Sp w W g cs) (hg : w.heap.size < g) (i : Nat) (u : Value) : Sp w (W.setCell ⟨g, i, none⟩ u) g (cs.set i u) :=
  ⟨h.1.far (by simp; omega) u, h.2.1.set_ i u, h.2.2.setCell (p := ⟨g, i, none⟩) (by show w.heap.size ≤ g; omega) u⟩
theorem and_bit (x : Nat) (hx : x < 256) : (x &&& 1 = 0 ↔ ¬ x % 2 = 1) ∧ (x &&& 2 = 0 ↔ ¬ x / 2 % 2 = 1) ∧ (x &&& 4 = 0 ↔ ¬ x / 4 % 2 = 1) ∧ (x &&& 16 = 0 ↔ ¬ x / 16 % 2 = 1) :=
  (by decide +kernel : ∀ x : Fin 256, (x.val &&& 1 = 0 ↔ ¬ x.val % 2 = 1) ∧ (x.val &&& 2 = 0 ↔ ¬ x.val / 2 % 2 = 1) ∧ (x.val &&& 4 = 0 ↔ ¬ x.val / 4 % 2 = 1) ∧ (x.val &&& 16 = 0 ↔ ¬ x.val / 16 % 2 = 1)) ⟨x, hx⟩
theorem bit_of {x m : Nat} {p : Prop} [Decidable p] (h : x = m) (hp : x = 0 ↔ ¬ p) : ((m : Int) == 0) = !decide p ∧ ((m : Int) != 0) = decide p := by
  subst h
  by_cases q : p
  · have : x ≠ 0 := fun e => (hp.1 e) q
    simp [q]; omega
  · have : x = 0 := hp.2 q
    simp [q, this]

set_option maxHeartbeats 4000000 in
theorem parse_good (s : ByteArray) (w : World) (hz : s.size ≤ 9223372036854775807) (h : rightL s.data.toList = 0) :
    Calls Tryz.prog 10 #[.string s] w fun e w' => e = .returned (.tuple #[.agg (parseC s).toArray, .int .i64 0]) ∧ Below w.heap.size w w' := by
  have hl : s.data.toList.length = s.size := bytes_len s
  obtain ⟨b12, g12⟩ : ∃ b, bn s.data.toList 12 = b := ⟨_, rfl⟩
  obtain ⟨b13, g13⟩ : ∃ b, bn s.data.toList 13 = b := ⟨_, rfl⟩
  have hs : 20 ≤ s.size ∧ 80 ≤ b12 ∧ b12 % 16 = 0 ∧ b12 / 4 ≤ s.size ∧ b13 < 256 ∧ b12 < 256 := by
    unfold rightL at h
    rw [hl, g12, g13] at h
    have := UInt8.toNat_lt (s.data.toList.getD 13 0)
    have := UInt8.toNat_lt (s.data.toList.getD 12 0)
    unfold bn at g12 g13
    repeat' split at h
    all_goals omega
  obtain ⟨hs1, hs2, hs3, hs4, hb13, hb12⟩ := hs
  have h12 : 12 < s.size := by omega
  have h13 : 13 < s.size := by omega
  have e12 : (s[12]'h12).toNat = b12 := by rw [bn_get s 12 h12, g12]
  have e13 : (s[13]'h13).toNat = b13 := by rw [bn_get s 13 h13, g13]
  have hr := fun w => right_any s w hz
  rw [h] at hr
  have HR := Lib.hid hr
  unfold parseC
  rw [g12, g13]
  have hp := get_at s
  have l0 := pf_lt s 0 2
  have l1 := pf_lt s 2 4
  have l4 := pf_lt s 14 16
  obtain ⟨p, ep⟩ : ∃ p, pf s = p := ⟨_, rfl⟩
  rw [ep] at hp l0 l1 l4 ⊢
  have HP := Lib.hid hp
  clear ep hp g12 g13 h hr hl
  have a12 : ((s[12]'h12).toNat : Int) = (b12 : Int) := by rw [e12]
  have a13 : ((s[13]'h13).toNat : Int) = (b13 : Int) := by rw [e13]
  clear e12 e13
  obtain ⟨q, eq⟩ : ∃ q, b12 / 4 = q := ⟨_, rfl⟩
  have hq : (b12 : Int) / 16 * 4 = (q : Int) := by omega
  have hw0 : IntKind.u16.wrap (p 0 2 : Int) = p 0 2 := IntWalk.u16_in _ (by omega)
  have hw1 : IntKind.u16.wrap (p 2 4 : Int) = p 2 4 := IntWalk.u16_in _ (by omega)
  have hw4 : IntKind.u16.wrap (p 14 16 : Int) = p 14 16 := IntWalk.u16_in _ (by omega)
  have z2 : (2 : Int) ≤ s.size := by omega
  have z4 : (4 : Int) ≤ s.size := by omega
  have z8 : (8 : Int) ≤ s.size := by omega
  have z12 : (12 : Int) ≤ s.size := by omega
  have z16 : (16 : Int) ≤ s.size := by omega
  have zq1 : (20 : Int) ≤ (q : Int) := by omega
  have zq2 : (q : Int) ≤ s.size := by omega
  rw [eq]
  clear eq hs4 hs3 hs2
  obtain ⟨b1, b2, b4, b16⟩ := and_bit b13 hb13
  have a1 := u8_and_nat b13 1 hb13 (by omega)
  have a2 := u8_and_nat b13 2 hb13 (by omega)
  have a4 := u8_and_nat b13 4 hb13 (by omega)
  have a16 := u8_and_nat b13 16 hb13 (by omega)
  obtain ⟨m1, em1⟩ : ∃ m, b13 &&& 1 = m := ⟨_, rfl⟩
  obtain ⟨m2, em2⟩ : ∃ m, b13 &&& 2 = m := ⟨_, rfl⟩
  obtain ⟨m4, em4⟩ : ∃ m, b13 &&& 4 = m := ⟨_, rfl⟩
  obtain ⟨m16, em16⟩ : ∃ m, b13 &&& 16 = m := ⟨_, rfl⟩
  rw [em1] at a1
  rw [em2] at a2
  rw [em4] at a4
  rw [em16] at a16
  obtain ⟨c1, c1'⟩ := bit_of em1 b1
  obtain ⟨c2, c2'⟩ := bit_of em2 b2
  obtain ⟨c4, c4'⟩ := bit_of em4 b4
  obtain ⟨c16, c16'⟩ := bit_of em16 b16
  obtain ⟨fin, efin⟩ : ∃ f, decide (b13 % 2 = 1) = f := ⟨_, rfl⟩
  obtain ⟨syn, esyn⟩ : ∃ f, decide (b13 / 2 % 2 = 1) = f := ⟨_, rfl⟩
  obtain ⟨rst, erst⟩ : ∃ f, decide (b13 / 4 % 2 = 1) = f := ⟨_, rfl⟩
  obtain ⟨ackOn, eack⟩ : ∃ f, decide (b13 / 16 % 2 = 1) = f := ⟨_, rfl⟩
  rw [efin] at c1 c1'
  rw [esyn] at c2 c2'
  rw [erst] at c4 c4'
  rw [eack] at c16 c16'
  rw [efin, esyn, erst, eack]
  simp only [Int.cast_ofNat_Int] at a1 a2 a4 a16
  clear b1 b2 b4 b16 em1 em2 em4 em16 efin esyn erst eack
  unfold segC
  go_enter Tryz.func10, Tryz.ntmps10
  go_upto_region 5 with (go_at_call 26; refine (HR.out _).mono ?_; rintro e w1 ⟨rfl, hb1⟩)
  clear hs1 hb13 hb12 l0 l1 l4
  apply wp_one
  case h1 =>
    go_region_held3 (fun _ => True) (trivial) ((go_at_call 27; refine (HP.out _ _ (by decide) _).mono ?_; rintro e w2 ⟨rfl, rfl⟩))
    all_goals exact ⟨rfl, rfl, rfl⟩
  obtain ⟨g, hg⟩ : ∃ g, w1.heap.size = g := ⟨_, rfl⟩
  have hB1 : Below w.heap.size w w1 := ((Below.refl _ w).alloc (Nat.le_refl _) _).trans (hb1.mono (by simp))
  have hgl : w.heap.size < g := by have := hb1.size; rw [← hg]; simp at this; omega
  have hS : Sp w ((w1.alloc (.cells #[.int .i64 0, .int .u16 (p 0 2 : Nat), .int .u16 (p 2 4 : Nat), .int .u32 (p 4 8 : Nat), .int .u32 (p 8 12 : Nat), .bool false, .bool false, .bool false, .bool false, .int .u16 (p 14 16 : Nat), .string (s.extract 20 q), .string (s.extract q s.size)] 29)).drew) g
      [.int .i64 0, .int .u16 (p 0 2 : Nat), .int .u16 (p 2 4 : Nat), .int .u32 (p 4 8 : Nat), .int .u32 (p 8 12 : Nat), .bool false, .bool false, .bool false, .bool false, .int .u16 (p 14 16 : Nat), .string (s.extract 20 q), .string (s.extract q s.size)] := by
    refine ⟨((At.of_new w _ _).kept hb1).alloc _, ?_, hB1.alloc hB1.size _ |>.drew⟩
    rw [← hg]
    exact At.of_new w1 _ _
  rw [hg]
  obtain ⟨W, hW⟩ : ∃ W, (w1.alloc (.cells #[.int .i64 0, .int .u16 (p 0 2 : Nat), .int .u16 (p 2 4 : Nat), .int .u32 (p 4 8 : Nat), .int .u32 (p 8 12 : Nat), .bool false, .bool false, .bool false, .bool false, .int .u16 (p 14 16 : Nat), .string (s.extract 20 q), .string (s.extract q s.size)] 29)).drew = W := ⟨_, rfl⟩
  rw [hW] at hS ⊢
  clear hW hb1 hB1 hg
  have HS := Lib.hid hS
  clear hS
  have HG := Lib.hid hgl
  clear hgl
  go_wp2_with (go_at_call 19; refine (flags_any g _ _ HS.out.2.1).mono ?_; rintro e W0 ⟨rfl, hb⟩)
  have HS0 : Hid (Sp w W0 g [.int .i64 0, .int .u16 (p 0 2 : Nat), .int .u16 (p 2 4 : Nat), .int .u32 (p 4 8 : Nat), .int .u32 (p 8 12 : Nat), .bool false, .bool false, .bool false, .bool false, .int .u16 (p 14 16 : Nat), .string (s.extract 20 q), .string (s.extract q s.size)]) := HS.out.kept hb
  clear hb HS
  have j0 : ∀ (x y z u : Addr) (w : World), (Instr.index 62 (.agg #[.pointer (some x), .pointer (some y), .pointer (some z), .pointer (some u)]) (.int .i64 0)).run Tryz.prog w = .ok (.pointer (some x)) w := fun _ _ _ _ _ => by kernel_rfl
  have j1 : ∀ (x y z u : Addr) (w : World), (Instr.index 62 (.agg #[.pointer (some x), .pointer (some y), .pointer (some z), .pointer (some u)]) (.int .i64 1)).run Tryz.prog w = .ok (.pointer (some y)) w := fun _ _ _ _ _ => by kernel_rfl
  have j2 : ∀ (x y z u : Addr) (w : World), (Instr.index 62 (.agg #[.pointer (some x), .pointer (some y), .pointer (some z), .pointer (some u)]) (.int .i64 2)).run Tryz.prog w = .ok (.pointer (some z)) w := fun _ _ _ _ _ => by kernel_rfl
  have j3 : ∀ (x y z u : Addr) (w : World), (Instr.index 62 (.agg #[.pointer (some x), .pointer (some y), .pointer (some z), .pointer (some u)]) (.int .i64 3)).run Tryz.prog w = .ok (.pointer (some u)) w := fun _ _ _ _ _ => by kernel_rfl
  have k0 : ∀ (w : World), (Instr.index 65 (.agg #[.int .u8 1, .int .u8 2, .int .u8 4, .int .u8 16]) (.int .i64 0)).run Tryz.prog w = .ok (.int .u8 1) w := fun _ => by kernel_rfl
  have k1 : ∀ (w : World), (Instr.index 65 (.agg #[.int .u8 1, .int .u8 2, .int .u8 4, .int .u8 16]) (.int .i64 1)).run Tryz.prog w = .ok (.int .u8 2) w := fun _ => by kernel_rfl
  have k2 : ∀ (w : World), (Instr.index 65 (.agg #[.int .u8 1, .int .u8 2, .int .u8 4, .int .u8 16]) (.int .i64 2)).run Tryz.prog w = .ok (.int .u8 4) w := fun _ => by kernel_rfl
  have k3 : ∀ (w : World), (Instr.index 65 (.agg #[.int .u8 1, .int .u8 2, .int .u8 4, .int .u8 16]) (.int .i64 3)).run Tryz.prog w = .ok (.int .u8 16) w := fun _ => by kernel_rfl
  have z13 : (13 : Int) < s.size := by omega
  refine wp_loop_rounds 5 ?_
  rw [rounds_succ]
  go_upto_region 9 with fail
  refine wp_region_head 8 (fun w' => Sp w w' g [.int .i64 0, .int .u16 (p 0 2 : Nat), .int .u16 (p 2 4 : Nat), .int .u32 (p 4 8 : Nat), .int .u32 (p 8 12 : Nat), .bool false, .bool false, .bool false, .bool false, .int .u16 (p 14 16 : Nat), .string (s.extract 20 q), .string (s.extract q s.size)]) (by kernel_rfl) (by kernel_rfl) HS0.out.drew ?_
  simp only [List.take_succ_cons, List.take_zero, List.drop_succ_cons, List.drop_zero]
  clear HS0
  refine wpQuiet_val (v := ?_) (by rfl) (fun w' hw' => ?_) ?_
  rotate_left
  · clear hw'
    go_simp
    exact rfl
  simp only [Act.put, List.setIfInBounds_toArray, List.set_cons_zero, List.set_cons_succ]
  refine wpQuiet_val (v := ?_) (by rfl) (fun w' hw' => ?_) ?_
  rotate_left
  · clear hw'
    go_simp
    exact rfl
  simp only [Act.put, List.setIfInBounds_toArray, List.set_cons_zero, List.set_cons_succ]
  refine wpQuiet_val (v := ?_) (by rfl) (fun w' hw' => ?_) ?_
  rotate_left
  · clear hw'
    go_simp
    exact rfl
  simp only [Act.put, List.setIfInBounds_toArray, List.set_cons_zero, List.set_cons_succ]
  refine wpQuiet_val (v := .agg #[.int .u8 1, .int .u8 2, .int .u8 4, .int .u8 16]) (by rfl) (fun w' hw' => ?_) ?_
  · go_simp
    refine (bits_any w').mono ?_
    rintro e w2 ⟨rfl, hb2⟩
    exact ⟨rfl, hw'.kept hb2⟩
  simp only [Act.put, List.setIfInBounds_toArray, List.set_cons_zero, List.set_cons_succ]
  refine wpQuiet_val (v := ?_) (by rfl) (fun w' hw' => ?_) ?_
  rotate_left
  · clear hw'
    go_simp
    exact rfl
  simp only [Act.put, List.setIfInBounds_toArray, List.set_cons_zero, List.set_cons_succ]
  refine wpQuiet_val (v := ?_) (by rfl) (fun w' hw' => ?_) ?_
  rotate_left
  · clear hw'
    go_simp
    exact rfl
  simp only [Act.put, List.setIfInBounds_toArray, List.set_cons_zero, List.set_cons_succ]
  refine wpQuiet_val (v := ?_) (by rfl) (fun w' hw' => ?_) ?_
  rotate_left
  · clear hw'
    go_simp
    exact rfl
  simp only [Act.put, List.setIfInBounds_toArray, List.set_cons_zero, List.set_cons_succ]
  refine wpQuiet_val (v := ?_) (by rfl) (fun w' hw' => ?_) ?_
  rotate_left
  · clear hw'
    go_simp
    exact rfl
  simp only [Act.put, List.setIfInBounds_toArray, List.set_cons_zero, List.set_cons_succ]
  refine wpQuiet_nil ?_
  intro w' hw'
  have hc : w'.cell? ⟨g, 7, none⟩ = some (.bool false) := hw'.2.1.cell 7
  have hf : w'.frozen? ⟨g, 7, none⟩ = false := hw'.2.1.frozen 7
  have HW := Lib.hid hw'
  clear hw'
  go_wp2
  obtain ⟨W1, hW⟩ : ∃ W, w'.setCell ⟨g, 7, none⟩ (.bool fin) = W := ⟨_, rfl⟩
  rw [hW]
  have HS1 : Hid (Sp w W1 g [.int .i64 0, .int .u16 (p 0 2 : Nat), .int .u16 (p 2 4 : Nat), .int .u32 (p 4 8 : Nat), .int .u32 (p 8 12 : Nat), .bool false, .bool false, .bool fin, .bool false, .int .u16 (p 14 16 : Nat), .string (s.extract 20 q), .string (s.extract q s.size)]) := by
    rw [← hW]; exact HW.out.set HG.out 7 (.bool fin)
  clear hW hc hf HW w'
  rw [rounds_succ]
  go_upto_region 9 with fail
  refine wp_region_head 8 (fun w' => Sp w w' g [.int .i64 0, .int .u16 (p 0 2 : Nat), .int .u16 (p 2 4 : Nat), .int .u32 (p 4 8 : Nat), .int .u32 (p 8 12 : Nat), .bool false, .bool false, .bool fin, .bool false, .int .u16 (p 14 16 : Nat), .string (s.extract 20 q), .string (s.extract q s.size)]) (by kernel_rfl) (by kernel_rfl) HS1.out.drew ?_
  simp only [List.take_succ_cons, List.take_zero, List.drop_succ_cons, List.drop_zero]
  clear HS1
  refine wpQuiet_val (v := ?_) (by rfl) (fun w' hw' => ?_) ?_
  rotate_left
  · clear hw'
    go_simp
    exact rfl
  simp only [Act.put, List.setIfInBounds_toArray, List.set_cons_zero, List.set_cons_succ]
  refine wpQuiet_val (v := ?_) (by rfl) (fun w' hw' => ?_) ?_
  rotate_left
  · clear hw'
    go_simp
    exact rfl
  simp only [Act.put, List.setIfInBounds_toArray, List.set_cons_zero, List.set_cons_succ]
  refine wpQuiet_val (v := ?_) (by rfl) (fun w' hw' => ?_) ?_
  rotate_left
  · clear hw'
    go_simp
    exact rfl
  simp only [Act.put, List.setIfInBounds_toArray, List.set_cons_zero, List.set_cons_succ]
  refine wpQuiet_val (v := .agg #[.int .u8 1, .int .u8 2, .int .u8 4, .int .u8 16]) (by rfl) (fun w' hw' => ?_) ?_
  · go_simp
    refine (bits_any w').mono ?_
    rintro e w2 ⟨rfl, hb2⟩
    exact ⟨rfl, hw'.kept hb2⟩
  simp only [Act.put, List.setIfInBounds_toArray, List.set_cons_zero, List.set_cons_succ]
  refine wpQuiet_val (v := ?_) (by rfl) (fun w' hw' => ?_) ?_
  rotate_left
  · clear hw'
    go_simp
    exact rfl
  simp only [Act.put, List.setIfInBounds_toArray, List.set_cons_zero, List.set_cons_succ]
  refine wpQuiet_val (v := ?_) (by rfl) (fun w' hw' => ?_) ?_
  rotate_left
  · clear hw'
    go_simp
    exact rfl
  simp only [Act.put, List.setIfInBounds_toArray, List.set_cons_zero, List.set_cons_succ]
  refine wpQuiet_val (v := ?_) (by rfl) (fun w' hw' => ?_) ?_
  rotate_left
  · clear hw'
    go_simp
    exact rfl
  simp only [Act.put, List.setIfInBounds_toArray, List.set_cons_zero, List.set_cons_succ]
  refine wpQuiet_val (v := ?_) (by rfl) (fun w' hw' => ?_) ?_
  rotate_left
  · clear hw'
    go_simp
    exact rfl
  simp only [Act.put, List.setIfInBounds_toArray, List.set_cons_zero, List.set_cons_succ]
  refine wpQuiet_nil ?_
  intro w' hw'
  have hc : w'.cell? ⟨g, 5, none⟩ = some (.bool false) := hw'.2.1.cell 5
  have hf : w'.frozen? ⟨g, 5, none⟩ = false := hw'.2.1.frozen 5
  have HW := Lib.hid hw'
  clear hw'
  go_wp2
  obtain ⟨W2, hW⟩ : ∃ W, w'.setCell ⟨g, 5, none⟩ (.bool syn) = W := ⟨_, rfl⟩
  rw [hW]
  have HS2 : Hid (Sp w W2 g [.int .i64 0, .int .u16 (p 0 2 : Nat), .int .u16 (p 2 4 : Nat), .int .u32 (p 4 8 : Nat), .int .u32 (p 8 12 : Nat), .bool syn, .bool false, .bool fin, .bool false, .int .u16 (p 14 16 : Nat), .string (s.extract 20 q), .string (s.extract q s.size)]) := by
    rw [← hW]; exact HW.out.set HG.out 5 (.bool syn)
  clear hW hc hf HW w'
  rw [rounds_succ]
  go_upto_region 9 with fail
  refine wp_region_head 8 (fun w' => Sp w w' g [.int .i64 0, .int .u16 (p 0 2 : Nat), .int .u16 (p 2 4 : Nat), .int .u32 (p 4 8 : Nat), .int .u32 (p 8 12 : Nat), .bool syn, .bool false, .bool fin, .bool false, .int .u16 (p 14 16 : Nat), .string (s.extract 20 q), .string (s.extract q s.size)]) (by kernel_rfl) (by kernel_rfl) HS2.out.drew ?_
  simp only [List.take_succ_cons, List.take_zero, List.drop_succ_cons, List.drop_zero]
  clear HS2
  refine wpQuiet_val (v := ?_) (by rfl) (fun w' hw' => ?_) ?_
  rotate_left
  · clear hw'
    go_simp
    exact rfl
  simp only [Act.put, List.setIfInBounds_toArray, List.set_cons_zero, List.set_cons_succ]
  refine wpQuiet_val (v := ?_) (by rfl) (fun w' hw' => ?_) ?_
  rotate_left
  · clear hw'
    go_simp
    exact rfl
  simp only [Act.put, List.setIfInBounds_toArray, List.set_cons_zero, List.set_cons_succ]
  refine wpQuiet_val (v := ?_) (by rfl) (fun w' hw' => ?_) ?_
  rotate_left
  · clear hw'
    go_simp
    exact rfl
  simp only [Act.put, List.setIfInBounds_toArray, List.set_cons_zero, List.set_cons_succ]
  refine wpQuiet_val (v := .agg #[.int .u8 1, .int .u8 2, .int .u8 4, .int .u8 16]) (by rfl) (fun w' hw' => ?_) ?_
  · go_simp
    refine (bits_any w').mono ?_
    rintro e w2 ⟨rfl, hb2⟩
    exact ⟨rfl, hw'.kept hb2⟩
  simp only [Act.put, List.setIfInBounds_toArray, List.set_cons_zero, List.set_cons_succ]
  refine wpQuiet_val (v := ?_) (by rfl) (fun w' hw' => ?_) ?_
  rotate_left
  · clear hw'
    go_simp
    exact rfl
  simp only [Act.put, List.setIfInBounds_toArray, List.set_cons_zero, List.set_cons_succ]
  refine wpQuiet_val (v := ?_) (by rfl) (fun w' hw' => ?_) ?_
  rotate_left
  · clear hw'
    go_simp
    exact rfl
  simp only [Act.put, List.setIfInBounds_toArray, List.set_cons_zero, List.set_cons_succ]
  refine wpQuiet_val (v := ?_) (by rfl) (fun w' hw' => ?_) ?_
  rotate_left
  · clear hw'
    go_simp
    exact rfl
  simp only [Act.put, List.setIfInBounds_toArray, List.set_cons_zero, List.set_cons_succ]
  refine wpQuiet_val (v := ?_) (by rfl) (fun w' hw' => ?_) ?_
  rotate_left
  · clear hw'
    go_simp
    exact rfl
  simp only [Act.put, List.setIfInBounds_toArray, List.set_cons_zero, List.set_cons_succ]
  refine wpQuiet_nil ?_
  intro w' hw'
  have hc : w'.cell? ⟨g, 8, none⟩ = some (.bool false) := hw'.2.1.cell 8
  have hf : w'.frozen? ⟨g, 8, none⟩ = false := hw'.2.1.frozen 8
  have HW := Lib.hid hw'
  clear hw'
  go_wp2
  obtain ⟨W3, hW⟩ : ∃ W, w'.setCell ⟨g, 8, none⟩ (.bool rst) = W := ⟨_, rfl⟩
  rw [hW]
  have HS3 : Hid (Sp w W3 g [.int .i64 0, .int .u16 (p 0 2 : Nat), .int .u16 (p 2 4 : Nat), .int .u32 (p 4 8 : Nat), .int .u32 (p 8 12 : Nat), .bool syn, .bool false, .bool fin, .bool rst, .int .u16 (p 14 16 : Nat), .string (s.extract 20 q), .string (s.extract q s.size)]) := by
    rw [← hW]; exact HW.out.set HG.out 8 (.bool rst)
  clear hW hc hf HW w'
  rw [rounds_succ]
  go_upto_region 9 with fail
  refine wp_region_head 8 (fun w' => Sp w w' g [.int .i64 0, .int .u16 (p 0 2 : Nat), .int .u16 (p 2 4 : Nat), .int .u32 (p 4 8 : Nat), .int .u32 (p 8 12 : Nat), .bool syn, .bool false, .bool fin, .bool rst, .int .u16 (p 14 16 : Nat), .string (s.extract 20 q), .string (s.extract q s.size)]) (by kernel_rfl) (by kernel_rfl) HS3.out.drew ?_
  simp only [List.take_succ_cons, List.take_zero, List.drop_succ_cons, List.drop_zero]
  clear HS3
  refine wpQuiet_val (v := ?_) (by rfl) (fun w' hw' => ?_) ?_
  rotate_left
  · clear hw'
    go_simp
    exact rfl
  simp only [Act.put, List.setIfInBounds_toArray, List.set_cons_zero, List.set_cons_succ]
  refine wpQuiet_val (v := ?_) (by rfl) (fun w' hw' => ?_) ?_
  rotate_left
  · clear hw'
    go_simp
    exact rfl
  simp only [Act.put, List.setIfInBounds_toArray, List.set_cons_zero, List.set_cons_succ]
  refine wpQuiet_val (v := ?_) (by rfl) (fun w' hw' => ?_) ?_
  rotate_left
  · clear hw'
    go_simp
    exact rfl
  simp only [Act.put, List.setIfInBounds_toArray, List.set_cons_zero, List.set_cons_succ]
  refine wpQuiet_val (v := .agg #[.int .u8 1, .int .u8 2, .int .u8 4, .int .u8 16]) (by rfl) (fun w' hw' => ?_) ?_
  · go_simp
    refine (bits_any w').mono ?_
    rintro e w2 ⟨rfl, hb2⟩
    exact ⟨rfl, hw'.kept hb2⟩
  simp only [Act.put, List.setIfInBounds_toArray, List.set_cons_zero, List.set_cons_succ]
  refine wpQuiet_val (v := ?_) (by rfl) (fun w' hw' => ?_) ?_
  rotate_left
  · clear hw'
    go_simp
    exact rfl
  simp only [Act.put, List.setIfInBounds_toArray, List.set_cons_zero, List.set_cons_succ]
  refine wpQuiet_val (v := ?_) (by rfl) (fun w' hw' => ?_) ?_
  rotate_left
  · clear hw'
    go_simp
    exact rfl
  simp only [Act.put, List.setIfInBounds_toArray, List.set_cons_zero, List.set_cons_succ]
  refine wpQuiet_val (v := ?_) (by rfl) (fun w' hw' => ?_) ?_
  rotate_left
  · clear hw'
    go_simp
    exact rfl
  simp only [Act.put, List.setIfInBounds_toArray, List.set_cons_zero, List.set_cons_succ]
  refine wpQuiet_val (v := ?_) (by rfl) (fun w' hw' => ?_) ?_
  rotate_left
  · clear hw'
    go_simp
    exact rfl
  simp only [Act.put, List.setIfInBounds_toArray, List.set_cons_zero, List.set_cons_succ]
  refine wpQuiet_nil ?_
  intro w' hw'
  have hc : w'.cell? ⟨g, 6, none⟩ = some (.bool false) := hw'.2.1.cell 6
  have hf : w'.frozen? ⟨g, 6, none⟩ = false := hw'.2.1.frozen 6
  have HW := Lib.hid hw'
  clear hw'
  go_wp2
  obtain ⟨W4, hW⟩ : ∃ W, w'.setCell ⟨g, 6, none⟩ (.bool ackOn) = W := ⟨_, rfl⟩
  rw [hW]
  have HS4 : Hid (Sp w W4 g [.int .i64 0, .int .u16 (p 0 2 : Nat), .int .u16 (p 2 4 : Nat), .int .u32 (p 4 8 : Nat), .int .u32 (p 8 12 : Nat), .bool syn, .bool ackOn, .bool fin, .bool rst, .int .u16 (p 14 16 : Nat), .string (s.extract 20 q), .string (s.extract q s.size)]) := by
    rw [← hW]; exact HW.out.set HG.out 6 (.bool ackOn)
  clear hW hc hf HW w'
  rw [rounds_succ]
  obtain ⟨f, d0, d1, d2, d3, d4, d5, d6, d7, d8, d9, d10, d11⟩ := HS4.out.2.1.cells12
  obtain ⟨f', e0, e1, e2, e3, e4, e5, e6, e7, e8, e9, e10, e11⟩ := HS4.out.1.cells12
  go_wp2
  refine chain12 (motive := fun W => bodyPost _ _ _ _ _ W) HS4.out.1 ?_
  intro W5 hA2 hO2
  have hL := seg_loadVar hA2 (by rfl)
  exact bodyPost_ret (v := .tuple #[.agg #[.int .i64 0, .int .u16 (p 0 2 : Nat), .int .u16 (p 2 4 : Nat), .int .u32 (p 4 8 : Nat), .int .u32 (p 8 12 : Nat), .bool syn, .bool ackOn, .bool fin, .bool rst, .int .u16 (p 14 16 : Nat), .string (s.extract 20 q), .string (s.extract q s.size)], .int .i64 0]) (by
    simp [results, Tryz.results10, asAddr, hL]) rfl ⟨rfl, below_only HS4.out.2.2 hO2 HS4.out.2.2.size (Nat.le_refl _)⟩
end Go.Proofs.YtbbkinldfpphdaaGreatDoor
