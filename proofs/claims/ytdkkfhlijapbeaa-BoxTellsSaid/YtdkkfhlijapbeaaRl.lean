/- The document's Lay, walked: the bytes of a segment. -/
import Derived.Test.YtdkkfhlijapbeaaRf3
import Derived.Test.YtdkkfhlijapbeaaSg
namespace Go.Proofs.Ytdkkfhlijapbeaa
open Go.RowKit Pl

theorem rlay_bad (path : Int) (src dst seq ack : Nat) (syn ackOn fin rst : Bool) (win : Nat) (area data : ByteArray) (w : World)
    (hs1 : area.size ≤ 9223372036854775807) (hs2 : data.size ≤ 9223372036854775807) (h : 40 < area.size ∨ area.size % 4 ≠ 0 ∨ 1024 < data.size) :
    Calls Try.prog 10 #[.agg (segC path src dst seq ack syn ackOn fin rst win area data).toArray] w fun e w' =>
      e = .returned (.tuple #[.string ⟨#[]⟩, .int .i64 6]) ∧ Below w.heap.size w w' := by
  unfold segC
  by_cases h1 : 40 < area.size
  · have d1 : decide (40 < (area.size : Int)) = true := by simp; omega
    go_enter Try.func10, Try.ntmps10
    go_wp2
    go_ret2
    exact ⟨rfl, (Below.refl _ _).alloc (Nat.le_refl _) _⟩
  · by_cases h2 : area.size % 4 = 0
    · have h3 : 1024 < data.size := by omega
      have d1 : decide (40 < (area.size : Int)) = false := by simp; omega
      have d2 : ((area.size : Int) % 4 == 0) = true := by simp; omega
      have d3 : decide (1024 < (data.size : Int)) = true := by simp; omega
      go_enter Try.func10, Try.ntmps10
      go_wp2
      go_ret2
      exact ⟨rfl, (Below.refl _ _).alloc (Nat.le_refl _) _⟩
    · have d1 : decide (40 < (area.size : Int)) = false := by simp; omega
      have d2 : ((area.size : Int) % 4 == 0) = false := by simp; omega
      go_enter Try.func10, Try.ntmps10
      go_wp2
      go_ret2
      exact ⟨rfl, (Below.refl _ _).alloc (Nat.le_refl _) _⟩

/-- Where the call stands: the segment's copy, all else as it was. -/
def Sl (w W : World) (cs : List Value) : Prop := At W w.heap.size 29 cs ∧ Below w.heap.size w W
theorem Sl.drew {w W : World} {cs : List Value} (h : Sl w W cs) : Sl w W.drew cs := ⟨h.1, h.2.drew⟩
theorem Sl.kept {w W W' : World} {cs : List Value} (h : Sl w W cs) (hb : Below W.heap.size W W') : Sl w W' cs := ⟨h.1.kept hb, h.2.trans (hb.mono h.2.size)⟩

/-- A number laid, named. -/
def LaidTo (n k : Nat) (a : ByteArray) : Prop := ∀ w, Calls Try.prog 22 #[.int .u64 n, .int .i64 k] w fun e w' => e = .returned (.string a) ∧ Below w.heap.size w w'
theorem laidTo (n k : Nat) (hn : n < 18446744073709551616) (hk : k ≤ 8) : ∃ a : ByteArray, a.size = k ∧ Hid (a.data.toList = beL k n) ∧ Hid (LaidTo n k a) :=
  ⟨⟨(beL k n).toArray⟩, by simp [ByteArray.size, beL_length], rfl, fun w => laid_any n k w hn hk⟩

set_option maxHeartbeats 4000000 in
theorem rlay_good (path : Int) (src dst seq ack : Nat) (syn ackOn fin rst : Bool) (win : Nat) (area data : ByteArray) (w : World)
    (h0 : src < 65536) (h1 : dst < 65536) (h2 : seq < 4294967296) (h3 : ack < 4294967296) (h4 : win < 65536) (h5 : area.size ≤ 40) (h6 : area.size % 4 = 0) (h7 : data.size ≤ 1024) :
    Calls Try.prog 10 #[.agg (segC path src dst seq ack syn ackOn fin rst win area data).toArray] w fun e w' =>
      e = .returned (.tuple #[.string ⟨(segL src dst seq ack (fl syn ackOn fin rst 4) win area.data.toList data.data.toList).toArray⟩, .int .i64 0]) ∧ Below w.heap.size w w' := by
  have d1 : decide (40 < (area.size : Int)) = false := by simp; omega
  have d2 : ((area.size : Int) % 4 == 0) = true := by simp; omega
  have d3 : decide (1024 < (data.size : Int)) = false := by simp; omega
  have HFL : ∀ w, Calls Try.prog 23 #[.agg (segC path src dst seq ack syn ackOn fin rst win area data).toArray] w fun e w' => e = .returned (.int .u64 (fl syn ackOn fin rst 4 : Nat)) ∧ Below w.heap.size w w' :=
    fun w => rflags_any _ _ _ _ _ _ _ _ _ _ _ _ w
  have hF32 : fl syn ackOn fin rst 4 < 32 := by cases syn <;> cases ackOn <;> cases fin <;> cases rst <;> decide
  obtain ⟨F, hF⟩ : ∃ F, fl syn ackOn fin rst 4 = F := ⟨_, rfl⟩
  rw [hF] at hF32 HFL ⊢
  obtain ⟨q, hq⟩ : ∃ q, area.size = 4 * q := ⟨area.size / 4, by omega⟩
  have hq10 : q ≤ 10 := by omega
  obtain ⟨a0, s0, b0, L0⟩ := laidTo src 2 (by omega) (by omega)
  obtain ⟨a1, s1, b1, L1⟩ := laidTo dst 2 (by omega) (by omega)
  obtain ⟨a2, s2, b2, L2⟩ := laidTo seq 4 (by omega) (by omega)
  obtain ⟨a3, s3, b3, L3⟩ := laidTo ack 4 (by omega) (by omega)
  obtain ⟨a4, s4, b4, L4⟩ := laidTo (16 * (5 + q)) 1 (by omega) (by omega)
  obtain ⟨a5, s5, b5, L5⟩ := laidTo F 1 (by omega) (by omega)
  obtain ⟨a6, s6, b6, L6⟩ := laidTo win 2 (by omega) (by omega)
  obtain ⟨T, hT⟩ : ∃ T, a0 ++ a1 ++ a2 ++ a3 ++ a4 ++ a5 ++ a6 ++ (⟨#[0, 0]⟩ : ByteArray) ++ ((⟨#[0, 0]⟩ : ByteArray) ++ area ++ data) = T := ⟨_, rfl⟩
  have hTl : T.data.toList = headB src dst seq ack area.data.toList.length F win 0 ++ (area.data.toList ++ data.data.toList) := by
    rw [← hT]
    simp only [ByteArray.data_append, Array.toList_append, b0.out, b1.out, b2.out, b3.out, b4.out, b5.out, b6.out, headB, bytes_len, hq]
    rw [show 4 * q / 4 = q by omega]
    simp [beL]
  have hTs : T.size ≤ 999999 := by
    rw [← hT]; simp only [ByteArray.size_append, s0, s1, s2, s3, s4, s5, s6]
    have : (⟨#[0, 0]⟩ : ByteArray).size = 2 := rfl
    omega
  have HT := Lib.hid hT
  have HO : Hid (∀ w, Calls Try.prog 25 #[.string T] w fun e w' => e = .returned (.int .u16 (fold (sumL T.data.toList) : Nat)) ∧ Below w.heap.size w w') := fun w => rof_any T w hTs
  have hck := fold_le (sumL T.data.toList)
  obtain ⟨C, hC⟩ : ∃ C, fold (sumL T.data.toList) = C := ⟨_, rfl⟩
  rw [hC] at HO hck
  obtain ⟨a7, s7, b7, L7⟩ := laidTo (65535 - C) 2 (by omega) (by omega)
  have hcks : ckS src dst seq ack F win area.data.toList data.data.toList = 65535 - C := by
    unfold ckS; rw [← hTl, hC]
  have hfin : ∀ R : ByteArray, a0 ++ a1 ++ a2 ++ a3 ++ a4 ++ a5 ++ a6 ++ a7 ++ ((⟨#[0, 0]⟩ : ByteArray) ++ area ++ data) = R → R = ⟨(segL src dst seq ack F win area.data.toList data.data.toList).toArray⟩ := by
    rintro R rfl
    apply ba_ext
    unfold segL
    rw [hcks]
    simp only [ByteArray.data_append, Array.toList_append, b0.out, b1.out, b2.out, b3.out, b4.out, b5.out, b6.out, b7.out, headB, bytes_len, hq]
    rw [show 4 * q / 4 = q by omega]
    simp [beL]
  have HR := Lib.hid hfin
  have HN : Hid (∀ w, Calls Try.prog 24 #[.int .u16 C] w fun e w' => e = .returned (.int .u16 (65535 - C : Nat)) ∧ w = w') := fun w => rnot_any C w hck
  obtain ⟨D, hD⟩ : ∃ D, 65535 - C = D := ⟨_, rfl⟩
  rw [hD] at HN L7
  have hD2 : D < 65536 := by omega
  have v0 : IntKind.u64.wrap (src : Int) = src := IntWalk.u64_in _ (by omega)
  have v1 : IntKind.u64.wrap (dst : Int) = dst := IntWalk.u64_in _ (by omega)
  have v2 : IntKind.u64.wrap (seq : Int) = seq := IntWalk.u64_in _ (by omega)
  have v3 : IntKind.u64.wrap (ack : Int) = ack := IntWalk.u64_in _ (by omega)
  have v6 : IntKind.u64.wrap (win : Int) = win := IntWalk.u64_in _ (by omega)
  have v7 : IntKind.u64.wrap (D : Int) = D := IntWalk.u64_in _ (by omega)
  have q4 : (area.size : Int) / 4 = (q : Int) := by omega
  obtain ⟨m, em⟩ : ∃ m, 5 + q = m := ⟨_, rfl⟩
  obtain ⟨p, ep⟩ : ∃ p, 16 * m = p := ⟨_, rfl⟩
  have vq : IntKind.i64.wrap (q : Int) = (q : Int) := IntWalk.i64_in _ (by omega)
  have v4 : IntKind.i64.wrap (5 + (q : Int)) = (m : Int) := by rw [← em]; exact IntWalk.i64_in _ (by omega)
  have v5 : IntKind.i64.wrap (16 * (m : Int)) = (p : Int) := by rw [← ep, ← em]; exact IntWalk.i64_in _ (by omega)
  have v8 : IntKind.u64.wrap (p : Int) = (p : Int) := IntWalk.u64_in _ (by omega)
  rw [em, ep] at L4
  clear hfin hcks hTl hTs hT hD em ep hC
  unfold segC
  go_enter Try.func10, Try.ntmps10
  go_upto_region 3 with fail
  obtain ⟨W, hW⟩ : ∃ W, (w.alloc (.cells #[.int .i64 path, .int .u16 src, .int .u16 dst, .int .u32 seq, .int .u32 ack, .bool syn, .bool ackOn, .bool fin, .bool rst, .int .u16 win, .string area, .string data] 29)) = W := ⟨_, rfl⟩
  have hS : Sl w W (segC path src dst seq ack syn ackOn fin rst win area data) := by
    rw [← hW]
    exact ⟨At.of_new w _ _, (Below.refl _ w).alloc (Nat.le_refl _) _⟩
  rw [hW]
  clear hW
  have HFL2 := Lib.hid HFL
  clear HFL h0 h1 h2 h3 h4 h6 hq hq10 hF32 hD2 hck d1 d2 d3
  refine wp_region_head 18 (fun w' => Sl w w' (segC path src dst seq ack syn ackOn fin rst win area data)) (by kernel_rfl) (by kernel_rfl) hS.drew ?_
  simp only [List.take_succ_cons, List.take_zero, List.drop_succ_cons, List.drop_zero]
  clear hS
  refine wpQuiet_val (v := ?_) (by rfl) (fun w' hw' => ?_) ?_
  rotate_left
  · clear hw'
    go_simp
    exact rfl
  simp only [Act.put, List.setIfInBounds_toArray, List.set_cons_zero, List.set_cons_succ]
  refine wpQuiet_val (v := ?_) (by rfl) (fun w' hw' => ?_) ?_
  rotate_left
  · have hcx := hw'.1.cell
    unfold segC at hcx
    clear hw'
    go_simp
    exact rfl
  simp only [Act.put, List.setIfInBounds_toArray, List.set_cons_zero, List.set_cons_succ]
  refine wpQuiet_val (v := ?_) (by rfl) (fun w' hw' => ?_) ?_
  rotate_left
  · clear hw'
    go_simp
    exact rfl
  simp only [Act.put, List.setIfInBounds_toArray, List.set_cons_zero, List.set_cons_succ]
  refine wpQuiet_val (v := .string a0) (by rfl) (fun w' hw' => ?_) ?_
  · go_simp
    refine (L0.out w').mono ?_
    rintro e w2 ⟨rfl, hb2⟩
    exact ⟨rfl, hw'.kept hb2⟩
  simp only [Act.put, List.setIfInBounds_toArray, List.set_cons_zero, List.set_cons_succ]
  refine wpQuiet_val (v := ?_) (by rfl) (fun w' hw' => ?_) ?_
  rotate_left
  · clear hw'
    go_simp
    exact rfl
  simp only [Act.put, List.setIfInBounds_toArray, List.set_cons_zero, List.set_cons_succ]
  refine wpQuiet_val (v := ?_) (by rfl) (fun w' hw' => ?_) ?_
  rotate_left
  · have hcx := hw'.1.cell
    unfold segC at hcx
    clear hw'
    go_simp
    exact rfl
  simp only [Act.put, List.setIfInBounds_toArray, List.set_cons_zero, List.set_cons_succ]
  refine wpQuiet_val (v := ?_) (by rfl) (fun w' hw' => ?_) ?_
  rotate_left
  · clear hw'
    go_simp
    exact rfl
  simp only [Act.put, List.setIfInBounds_toArray, List.set_cons_zero, List.set_cons_succ]
  refine wpQuiet_val (v := .string a1) (by rfl) (fun w' hw' => ?_) ?_
  · go_simp
    refine (L1.out w').mono ?_
    rintro e w2 ⟨rfl, hb2⟩
    exact ⟨rfl, hw'.kept hb2⟩
  simp only [Act.put, List.setIfInBounds_toArray, List.set_cons_zero, List.set_cons_succ]
  refine wpQuiet_val (v := ?_) (by rfl) (fun w' hw' => ?_) ?_
  rotate_left
  · clear hw'
    go_simp
    exact rfl
  simp only [Act.put, List.setIfInBounds_toArray, List.set_cons_zero, List.set_cons_succ]
  refine wpQuiet_val (v := ?_) (by rfl) (fun w' hw' => ?_) ?_
  rotate_left
  · clear hw'
    go_simp
    exact rfl
  simp only [Act.put, List.setIfInBounds_toArray, List.set_cons_zero, List.set_cons_succ]
  refine wpQuiet_val (v := ?_) (by rfl) (fun w' hw' => ?_) ?_
  rotate_left
  · have hcx := hw'.1.cell
    unfold segC at hcx
    clear hw'
    go_simp
    exact rfl
  simp only [Act.put, List.setIfInBounds_toArray, List.set_cons_zero, List.set_cons_succ]
  refine wpQuiet_val (v := ?_) (by rfl) (fun w' hw' => ?_) ?_
  rotate_left
  · clear hw'
    go_simp
    exact rfl
  simp only [Act.put, List.setIfInBounds_toArray, List.set_cons_zero, List.set_cons_succ]
  refine wpQuiet_val (v := .string a2) (by rfl) (fun w' hw' => ?_) ?_
  · go_simp
    refine (L2.out w').mono ?_
    rintro e w2 ⟨rfl, hb2⟩
    exact ⟨rfl, hw'.kept hb2⟩
  simp only [Act.put, List.setIfInBounds_toArray, List.set_cons_zero, List.set_cons_succ]
  refine wpQuiet_val (v := ?_) (by rfl) (fun w' hw' => ?_) ?_
  rotate_left
  · clear hw'
    go_simp
    exact rfl
  simp only [Act.put, List.setIfInBounds_toArray, List.set_cons_zero, List.set_cons_succ]
  refine wpQuiet_val (v := ?_) (by rfl) (fun w' hw' => ?_) ?_
  rotate_left
  · clear hw'
    go_simp
    exact rfl
  simp only [Act.put, List.setIfInBounds_toArray, List.set_cons_zero, List.set_cons_succ]
  refine wpQuiet_val (v := ?_) (by rfl) (fun w' hw' => ?_) ?_
  rotate_left
  · have hcx := hw'.1.cell
    unfold segC at hcx
    clear hw'
    go_simp
    exact rfl
  simp only [Act.put, List.setIfInBounds_toArray, List.set_cons_zero, List.set_cons_succ]
  refine wpQuiet_val (v := ?_) (by rfl) (fun w' hw' => ?_) ?_
  rotate_left
  · clear hw'
    go_simp
    exact rfl
  simp only [Act.put, List.setIfInBounds_toArray, List.set_cons_zero, List.set_cons_succ]
  refine wpQuiet_val (v := .string a3) (by rfl) (fun w' hw' => ?_) ?_
  · go_simp
    refine (L3.out w').mono ?_
    rintro e w2 ⟨rfl, hb2⟩
    exact ⟨rfl, hw'.kept hb2⟩
  simp only [Act.put, List.setIfInBounds_toArray, List.set_cons_zero, List.set_cons_succ]
  refine wpQuiet_nil ?_
  intro w' hw'
  have HW := Lib.hid hw'
  clear hw'
  go_upto_region 4 with fail
  have hS := HW.out
  refine wp_region_head 18 (fun w' => Sl w w' (segC path src dst seq ack syn ackOn fin rst win area data)) (by kernel_rfl) (by kernel_rfl) hS.drew ?_
  simp only [List.take_succ_cons, List.take_zero, List.drop_succ_cons, List.drop_zero]
  clear hS
  refine wpQuiet_val (v := ?_) (by rfl) (fun w' hw' => ?_) ?_
  rotate_left
  · clear hw'
    go_simp
    exact rfl
  simp only [Act.put, List.setIfInBounds_toArray, List.set_cons_zero, List.set_cons_succ]
  refine wpQuiet_val (v := ?_) (by rfl) (fun w' hw' => ?_) ?_
  rotate_left
  · clear hw'
    go_simp
    exact rfl
  simp only [Act.put, List.setIfInBounds_toArray, List.set_cons_zero, List.set_cons_succ]
  refine wpQuiet_val (v := ?_) (by rfl) (fun w' hw' => ?_) ?_
  rotate_left
  · have hcx := hw'.1.cell
    unfold segC at hcx
    clear hw'
    go_simp
    exact rfl
  simp only [Act.put, List.setIfInBounds_toArray, List.set_cons_zero, List.set_cons_succ]
  refine wpQuiet_val (v := ?_) (by rfl) (fun w' hw' => ?_) ?_
  rotate_left
  · clear hw'
    go_simp
    exact rfl
  simp only [Act.put, List.setIfInBounds_toArray, List.set_cons_zero, List.set_cons_succ]
  refine wpQuiet_val (v := ?_) (by rfl) (fun w' hw' => ?_) ?_
  rotate_left
  · clear hw'
    go_simp
    exact rfl
  simp only [Act.put, List.setIfInBounds_toArray, List.set_cons_zero, List.set_cons_succ]
  refine wpQuiet_val (v := ?_) (by rfl) (fun w' hw' => ?_) ?_
  rotate_left
  · clear hw'
    go_simp
    exact rfl
  simp only [Act.put, List.setIfInBounds_toArray, List.set_cons_zero, List.set_cons_succ]
  refine wpQuiet_val (v := ?_) (by rfl) (fun w' hw' => ?_) ?_
  rotate_left
  · clear hw'
    go_simp
    exact rfl
  simp only [Act.put, List.setIfInBounds_toArray, List.set_cons_zero, List.set_cons_succ]
  refine wpQuiet_val (v := ?_) (by rfl) (fun w' hw' => ?_) ?_
  rotate_left
  · clear hw'
    go_simp
    exact rfl
  simp only [Act.put, List.setIfInBounds_toArray, List.set_cons_zero, List.set_cons_succ]
  refine wpQuiet_val (v := .string a4) (by rfl) (fun w' hw' => ?_) ?_
  · go_simp
    refine (L4.out w').mono ?_
    rintro e w2 ⟨rfl, hb2⟩
    exact ⟨rfl, hw'.kept hb2⟩
  simp only [Act.put, List.setIfInBounds_toArray, List.set_cons_zero, List.set_cons_succ]
  refine wpQuiet_val (v := ?_) (by rfl) (fun w' hw' => ?_) ?_
  rotate_left
  · clear hw'
    go_simp
    exact rfl
  simp only [Act.put, List.setIfInBounds_toArray, List.set_cons_zero, List.set_cons_succ]
  refine wpQuiet_val (v := ?_) (by rfl) (fun w' hw' => ?_) ?_
  rotate_left
  · have hcx := hw'.1.cell
    unfold segC at hcx
    clear hw'
    go_simp
    exact rfl
  simp only [Act.put, List.setIfInBounds_toArray, List.set_cons_zero, List.set_cons_succ]
  refine wpQuiet_val (v := .int .u64 (F : Nat)) (by rfl) (fun w' hw' => ?_) ?_
  · go_simp
    refine (HFL2.out w').mono ?_
    rintro e w2 ⟨rfl, hb2⟩
    exact ⟨rfl, hw'.kept hb2⟩
  simp only [Act.put, List.setIfInBounds_toArray, List.set_cons_zero, List.set_cons_succ]
  refine wpQuiet_val (v := .string a5) (by rfl) (fun w' hw' => ?_) ?_
  · go_simp
    refine (L5.out w').mono ?_
    rintro e w2 ⟨rfl, hb2⟩
    exact ⟨rfl, hw'.kept hb2⟩
  simp only [Act.put, List.setIfInBounds_toArray, List.set_cons_zero, List.set_cons_succ]
  refine wpQuiet_val (v := ?_) (by rfl) (fun w' hw' => ?_) ?_
  rotate_left
  · clear hw'
    go_simp
    exact rfl
  simp only [Act.put, List.setIfInBounds_toArray, List.set_cons_zero, List.set_cons_succ]
  refine wpQuiet_val (v := ?_) (by rfl) (fun w' hw' => ?_) ?_
  rotate_left
  · clear hw'
    go_simp
    exact rfl
  simp only [Act.put, List.setIfInBounds_toArray, List.set_cons_zero, List.set_cons_succ]
  refine wpQuiet_val (v := ?_) (by rfl) (fun w' hw' => ?_) ?_
  rotate_left
  · have hcx := hw'.1.cell
    unfold segC at hcx
    clear hw'
    go_simp
    exact rfl
  simp only [Act.put, List.setIfInBounds_toArray, List.set_cons_zero, List.set_cons_succ]
  refine wpQuiet_val (v := ?_) (by rfl) (fun w' hw' => ?_) ?_
  rotate_left
  · clear hw'
    go_simp
    exact rfl
  simp only [Act.put, List.setIfInBounds_toArray, List.set_cons_zero, List.set_cons_succ]
  refine wpQuiet_val (v := .string a6) (by rfl) (fun w' hw' => ?_) ?_
  · go_simp
    refine (L6.out w').mono ?_
    rintro e w2 ⟨rfl, hb2⟩
    exact ⟨rfl, hw'.kept hb2⟩
  simp only [Act.put, List.setIfInBounds_toArray, List.set_cons_zero, List.set_cons_succ]
  refine wpQuiet_nil ?_
  intro w' hw'
  have HW := Lib.hid hw'
  clear hw'
  have hcx := HW.out.1.cell
  unfold segC at hcx
  have HO2 : Hid (∀ w, Calls Try.prog 25 #[.string (a0 ++ a1 ++ a2 ++ a3 ++ a4 ++ a5 ++ a6 ++ (⟨#[0, 0]⟩ : ByteArray) ++ ((⟨#[0, 0]⟩ : ByteArray) ++ area ++ data))] w fun e w' => e = .returned (.int .u16 (C : Nat)) ∧ Below w.heap.size w w') := by
    rw [HT.out]; exact HO.out
  have z2 : (⟨#[0, 0]⟩ : ByteArray).size = 2 := rfl
  go_wp2_with (first
    | (go_at_call 25; refine (HO2.out _).mono ?_; rintro e w2 ⟨rfl, hb2⟩)
    | (go_at_call 24; refine (HN.out _).mono ?_; rintro e w3 ⟨rfl, rfl⟩)
    | (go_at_call 22; refine (L7.out _).mono ?_; rintro e w3 ⟨rfl, hb3⟩))
  go_ret2
  refine ⟨?_, (HW.out.2.trans (hb2.mono HW.out.2.size)).trans (hb3.mono (Nat.le_trans HW.out.2.size hb2.size))⟩
  show Ending.returned (.tuple #[.string (a0 ++ a1 ++ a2 ++ a3 ++ a4 ++ a5 ++ a6 ++ a7 ++ ((⟨#[0, 0]⟩ : ByteArray) ++ area ++ data)), .int .i64 0]) = _
  rw [HR.out _ rfl]
end Go.Proofs.Ytdkkfhlijapbeaa
