/- The document's Parse, walked: bytes that are a segment. -/
import Derived.Test.YtdkkfhlijapbeaaRp
namespace Go.Proofs.Ytdkkfhlijapbeaa
open Go.RowKit Pl

theorem num_at (s : ByteArray) (a b : Nat) (h : b - a ≤ 4) (w : World) :
    Calls Try.prog 56 #[.string (s.extract a b)] w fun e w' => e = .returned (.int .u64 (pf s a b : Nat)) ∧ w = w' :=
  num_any _ w (by rw [ByteArray.size_extract]; omega)
theorem bit_one (x : Nat) : ((x : Int) == 1) = decide (x = 1) := by
  by_cases h : x = 1
  · subst h; rfl
  · rw [decide_eq_false h]; simp; omega

set_option maxHeartbeats 4000000 in
theorem rparse_good (s : ByteArray) (w : World) (hz : s.size ≤ 9223372036854775807) (h : rightL s.data.toList = 0) :
    Calls Try.prog 49 #[.string s] w fun e w' => e = .returned (.tuple #[.agg (parseC s).toArray, .int .i64 0]) ∧ Below w.heap.size w w' := by
  have hl : s.data.toList.length = s.size := bytes_len s
  obtain ⟨b12, g12⟩ : ∃ b, bn s.data.toList 12 = b := ⟨_, rfl⟩
  obtain ⟨b13, g13⟩ : ∃ b, bn s.data.toList 13 = b := ⟨_, rfl⟩
  obtain ⟨b18, g18⟩ : ∃ b, bn s.data.toList 18 = b := ⟨_, rfl⟩
  obtain ⟨b19, g19⟩ : ∃ b, bn s.data.toList 19 = b := ⟨_, rfl⟩
  have hs : 20 ≤ s.size ∧ 80 ≤ b12 ∧ b12 % 16 = 0 ∧ b12 / 4 ≤ s.size ∧ b13 < 256 ∧ b12 < 256 ∧ b13 / 32 = 0 ∧ b13 / 8 % 2 = 0 ∧ b18 = 0 ∧ b19 = 0 ∧ s.size - b12 / 4 ≤ 1024 ∧ fold (sumL s.data.toList) = 65535 := by
    unfold rightL at h
    rw [hl, g12, g13, g18, g19] at h
    have := UInt8.toNat_lt (s.data.toList.getD 13 0)
    have := UInt8.toNat_lt (s.data.toList.getD 12 0)
    unfold bn at g12 g13
    repeat' split at h
    all_goals omega
  obtain ⟨hs1, hs2, hs3, hs4, hb13, hb12, e1, e2, e3, e4, e5, e6⟩ := hs
  have h12 : 12 < s.size := by omega
  have h13 : 13 < s.size := by omega
  have h18 : 18 < s.size := by omega
  have h19 : 19 < s.size := by omega
  have a12 : ((s[12]'h12).toNat : Int) = (b12 : Int) := by rw [bn_get s 12 h12, g12]
  have a13 : ((s[13]'h13).toNat : Int) = (b13 : Int) := by rw [bn_get s 13 h13, g13]
  have a18 : ((s[18]'h18).toNat : Int) = 0 := by rw [bn_get s 18 h18, g18, e3]; rfl
  have a19 : ((s[19]'h19).toNat : Int) = 0 := by rw [bn_get s 19 h19, g19, e4]; rfl
  have HO := fun w => rof_any s w (by omega)
  rw [e6] at HO
  unfold parseC
  rw [g12, g13]
  have hp := num_at s
  have l0 := pf_lt s 0 2
  have l1 := pf_lt s 2 4
  have l2 := pf_lt s 4 8
  have l3 := pf_lt s 8 12
  have l4 := pf_lt s 14 16
  obtain ⟨p, ep⟩ : ∃ p, pf s = p := ⟨_, rfl⟩
  rw [ep] at hp l0 l1 l2 l3 l4 ⊢
  have HP := Lib.hid hp
  have HOf := Lib.hid HO
  clear ep hp g12 g13 g18 g19 h hl HO e6 e3 e4
  obtain ⟨q, eq⟩ : ∃ q, b12 / 4 = q := ⟨_, rfl⟩
  have hq : (b12 : Int) / 4 = (q : Int) := by omega
  have hw0 : IntKind.u16.wrap (p 0 2 : Int) = p 0 2 := IntWalk.u16_in _ (by omega)
  have hw1 : IntKind.u16.wrap (p 2 4 : Int) = p 2 4 := IntWalk.u16_in _ (by omega)
  have hw2 : IntKind.u32.wrap (p 4 8 : Int) = p 4 8 := IntWalk.u32_in _ (by omega)
  have hw3 : IntKind.u32.wrap (p 8 12 : Int) = p 8 12 := IntWalk.u32_in _ (by omega)
  have hw4 : IntKind.u16.wrap (p 14 16 : Int) = p 14 16 := IntWalk.u16_in _ (by omega)
  have z2 : (2 : Int) ≤ s.size := by omega
  have z4 : (4 : Int) ≤ s.size := by omega
  have z8 : (8 : Int) ≤ s.size := by omega
  have z12 : (12 : Int) ≤ s.size := by omega
  have z16 : (16 : Int) ≤ s.size := by omega
  have zq1 : (20 : Int) ≤ (q : Int) := by omega
  have zq2 : (q : Int) ≤ s.size := by omega
  have x0 : decide ((s.size : Int) < 20) = false := by simp; omega
  have y1 : decide ((b12 : Int) < 80) = false := by simp; omega
  have y2 : ((b12 : Int) % 16 == 0) = true := by simp; omega
  have y2' : ((b12 : Int) % 16 != 0) = false := by simp; omega
  have y3 : ¬ s.size < q := by omega
  have y4 : ((b13 : Int) / 32 == 0) = true := by simp; omega
  have y4' : ((b13 : Int) / 32 != 0) = false := by simp; omega
  have y5 : ((b13 : Int) / 8 % 2 == 0) = true := by simp; omega
  have y5' : ((b13 : Int) / 8 % 2 != 0) = false := by simp; omega
  have y8 : decide (1024 < (s.size : Int) - (q : Int)) = false := by simp; omega
  rw [eq]
  obtain ⟨fin, efin⟩ : ∃ f, decide (b13 % 2 = 1) = f := ⟨_, rfl⟩
  obtain ⟨syn, esyn⟩ : ∃ f, decide (b13 / 2 % 2 = 1) = f := ⟨_, rfl⟩
  obtain ⟨rst, erst⟩ : ∃ f, decide (b13 / 4 % 2 = 1) = f := ⟨_, rfl⟩
  obtain ⟨ackOn, eack⟩ : ∃ f, decide (b13 / 16 % 2 = 1) = f := ⟨_, rfl⟩
  have t1 : ((b13 : Int) % 2 == 1) = fin := by rw [← efin]; exact bit_one (b13 % 2)
  have t2 : ((b13 : Int) / 2 % 2 == 1) = syn := by rw [← esyn]; exact bit_one (b13 / 2 % 2)
  have t3 : ((b13 : Int) / 4 % 2 == 1) = rst := by rw [← erst]; exact bit_one (b13 / 4 % 2)
  have t4 : ((b13 : Int) / 16 % 2 == 1) = ackOn := by rw [← eack]; exact bit_one (b13 / 16 % 2)
  rw [efin, esyn, erst, eack]
  clear efin esyn erst eack eq hs4 hs3 hs2 hs1 l0 l1 l2 l3 l4 e1 e2 e5
  unfold segC
  go_enter Try.func49, Try.ntmps49
  go_upto_region 15 with (go_at_call 25; refine (HOf.out _).mono ?_; rintro e w1 ⟨rfl, hb1⟩)
  have hS : Sl w w1 zeroC := by
    refine ⟨(At.of_new w 29 #[.int .i64 0, .int .u16 0, .int .u16 0, .int .u32 0, .int .u32 0, .bool false, .bool false, .bool false, .bool false, .int .u16 0, .string ⟨#[]⟩, .string ⟨#[]⟩]).kept hb1, ((Below.refl _ w).alloc (Nat.le_refl _) _).trans (hb1.mono (by simp))⟩
  clear hb1
  refine wp_region_head 41 (fun w' => Sl w w' zeroC) (by kernel_rfl) (by kernel_rfl) hS.drew ?_
  simp only [List.take_succ_cons, List.take_zero, List.drop_succ_cons, List.drop_zero]
  clear hS
  refine wpQuiet_val (v := ?_) (by rfl) (fun w' hw' => ?_) ?_
  rotate_left
  · clear hw'
    go_simp
    exact rfl
  simp only [Act.put, List.setIfInBounds_toArray, List.set_cons_zero, List.set_cons_succ]
  refine wpQuiet_val (v := ?_) (by rfl) (fun w' hw' => ?_) ?_
  rotate_left
  · clear hw'
    go_simp
    exact rfl
  simp only [Act.put, List.setIfInBounds_toArray, List.set_cons_zero, List.set_cons_succ]
  refine wpQuiet_val (v := .int .u64 (p 0 2 : Nat)) (by rfl) (fun w' hw' => ?_) ?_
  · go_simp
    refine (HP.out 0 2 (by decide) w').mono ?_
    rintro e w2 ⟨rfl, rfl⟩
    exact ⟨rfl, hw'⟩
  simp only [Act.put, List.setIfInBounds_toArray, List.set_cons_zero, List.set_cons_succ]
  refine wpQuiet_val (v := ?_) (by rfl) (fun w' hw' => ?_) ?_
  rotate_left
  · clear hw'
    go_simp
    exact rfl
  simp only [Act.put, List.setIfInBounds_toArray, List.set_cons_zero, List.set_cons_succ]
  refine wpQuiet_val (v := ?_) (by rfl) (fun w' hw' => ?_) ?_
  rotate_left
  · clear hw'
    go_simp
    exact rfl
  simp only [Act.put, List.setIfInBounds_toArray, List.set_cons_zero, List.set_cons_succ]
  refine wpQuiet_val (v := ?_) (by rfl) (fun w' hw' => ?_) ?_
  rotate_left
  · clear hw'
    go_simp
    exact rfl
  simp only [Act.put, List.setIfInBounds_toArray, List.set_cons_zero, List.set_cons_succ]
  refine wpQuiet_val (v := .int .u64 (p 2 4 : Nat)) (by rfl) (fun w' hw' => ?_) ?_
  · go_simp
    refine (HP.out 2 4 (by decide) w').mono ?_
    rintro e w2 ⟨rfl, rfl⟩
    exact ⟨rfl, hw'⟩
  simp only [Act.put, List.setIfInBounds_toArray, List.set_cons_zero, List.set_cons_succ]
  refine wpQuiet_val (v := ?_) (by rfl) (fun w' hw' => ?_) ?_
  rotate_left
  · clear hw'
    go_simp
    exact rfl
  simp only [Act.put, List.setIfInBounds_toArray, List.set_cons_zero, List.set_cons_succ]
  refine wpQuiet_val (v := ?_) (by rfl) (fun w' hw' => ?_) ?_
  rotate_left
  · clear hw'
    go_simp
    exact rfl
  simp only [Act.put, List.setIfInBounds_toArray, List.set_cons_zero, List.set_cons_succ]
  refine wpQuiet_val (v := ?_) (by rfl) (fun w' hw' => ?_) ?_
  rotate_left
  · clear hw'
    go_simp
    exact rfl
  simp only [Act.put, List.setIfInBounds_toArray, List.set_cons_zero, List.set_cons_succ]
  refine wpQuiet_val (v := .int .u64 (p 4 8 : Nat)) (by rfl) (fun w' hw' => ?_) ?_
  · go_simp
    refine (HP.out 4 8 (by decide) w').mono ?_
    rintro e w2 ⟨rfl, rfl⟩
    exact ⟨rfl, hw'⟩
  simp only [Act.put, List.setIfInBounds_toArray, List.set_cons_zero, List.set_cons_succ]
  refine wpQuiet_val (v := ?_) (by rfl) (fun w' hw' => ?_) ?_
  rotate_left
  · clear hw'
    go_simp
    exact rfl
  simp only [Act.put, List.setIfInBounds_toArray, List.set_cons_zero, List.set_cons_succ]
  refine wpQuiet_val (v := ?_) (by rfl) (fun w' hw' => ?_) ?_
  rotate_left
  · clear hw'
    go_simp
    exact rfl
  simp only [Act.put, List.setIfInBounds_toArray, List.set_cons_zero, List.set_cons_succ]
  refine wpQuiet_val (v := ?_) (by rfl) (fun w' hw' => ?_) ?_
  rotate_left
  · clear hw'
    go_simp
    exact rfl
  simp only [Act.put, List.setIfInBounds_toArray, List.set_cons_zero, List.set_cons_succ]
  refine wpQuiet_val (v := .int .u64 (p 8 12 : Nat)) (by rfl) (fun w' hw' => ?_) ?_
  · go_simp
    refine (HP.out 8 12 (by decide) w').mono ?_
    rintro e w2 ⟨rfl, rfl⟩
    exact ⟨rfl, hw'⟩
  simp only [Act.put, List.setIfInBounds_toArray, List.set_cons_zero, List.set_cons_succ]
  refine wpQuiet_val (v := ?_) (by rfl) (fun w' hw' => ?_) ?_
  rotate_left
  · clear hw'
    go_simp
    exact rfl
  simp only [Act.put, List.setIfInBounds_toArray, List.set_cons_zero, List.set_cons_succ]
  refine wpQuiet_val (v := ?_) (by rfl) (fun w' hw' => ?_) ?_
  rotate_left
  · clear hw'
    go_simp
    exact rfl
  simp only [Act.put, List.setIfInBounds_toArray, List.set_cons_zero, List.set_cons_succ]
  refine wpQuiet_val (v := ?_) (by rfl) (fun w' hw' => ?_) ?_
  rotate_left
  · clear hw'
    go_simp
    exact rfl
  simp only [Act.put, List.setIfInBounds_toArray, List.set_cons_zero, List.set_cons_succ]
  refine wpQuiet_val (v := ?_) (by rfl) (fun w' hw' => ?_) ?_
  rotate_left
  · clear hw'
    go_simp
    exact rfl
  simp only [Act.put, List.setIfInBounds_toArray, List.set_cons_zero, List.set_cons_succ]
  refine wpQuiet_val (v := ?_) (by rfl) (fun w' hw' => ?_) ?_
  rotate_left
  · clear hw'
    go_simp
    exact rfl
  simp only [Act.put, List.setIfInBounds_toArray, List.set_cons_zero, List.set_cons_succ]
  refine wpQuiet_val (v := ?_) (by rfl) (fun w' hw' => ?_) ?_
  rotate_left
  · clear hw'
    go_simp
    exact rfl
  simp only [Act.put, List.setIfInBounds_toArray, List.set_cons_zero, List.set_cons_succ]
  refine wpQuiet_val (v := ?_) (by rfl) (fun w' hw' => ?_) ?_
  rotate_left
  · clear hw'
    go_simp
    exact rfl
  simp only [Act.put, List.setIfInBounds_toArray, List.set_cons_zero, List.set_cons_succ]
  refine wpQuiet_val (v := ?_) (by rfl) (fun w' hw' => ?_) ?_
  rotate_left
  · clear hw'
    go_simp
    exact rfl
  simp only [Act.put, List.setIfInBounds_toArray, List.set_cons_zero, List.set_cons_succ]
  refine wpQuiet_val (v := ?_) (by rfl) (fun w' hw' => ?_) ?_
  rotate_left
  · clear hw'
    go_simp
    exact rfl
  simp only [Act.put, List.setIfInBounds_toArray, List.set_cons_zero, List.set_cons_succ]
  refine wpQuiet_val (v := ?_) (by rfl) (fun w' hw' => ?_) ?_
  rotate_left
  · clear hw'
    go_simp
    exact rfl
  simp only [Act.put, List.setIfInBounds_toArray, List.set_cons_zero, List.set_cons_succ]
  refine wpQuiet_val (v := ?_) (by rfl) (fun w' hw' => ?_) ?_
  rotate_left
  · clear hw'
    go_simp
    exact rfl
  simp only [Act.put, List.setIfInBounds_toArray, List.set_cons_zero, List.set_cons_succ]
  refine wpQuiet_val (v := ?_) (by rfl) (fun w' hw' => ?_) ?_
  rotate_left
  · clear hw'
    go_simp
    exact rfl
  simp only [Act.put, List.setIfInBounds_toArray, List.set_cons_zero, List.set_cons_succ]
  refine wpQuiet_val (v := ?_) (by rfl) (fun w' hw' => ?_) ?_
  rotate_left
  · clear hw'
    go_simp
    exact rfl
  simp only [Act.put, List.setIfInBounds_toArray, List.set_cons_zero, List.set_cons_succ]
  refine wpQuiet_val (v := ?_) (by rfl) (fun w' hw' => ?_) ?_
  rotate_left
  · clear hw'
    go_simp
    exact rfl
  simp only [Act.put, List.setIfInBounds_toArray, List.set_cons_zero, List.set_cons_succ]
  refine wpQuiet_val (v := ?_) (by rfl) (fun w' hw' => ?_) ?_
  rotate_left
  · clear hw'
    go_simp
    exact rfl
  simp only [Act.put, List.setIfInBounds_toArray, List.set_cons_zero, List.set_cons_succ]
  refine wpQuiet_val (v := ?_) (by rfl) (fun w' hw' => ?_) ?_
  rotate_left
  · clear hw'
    go_simp
    exact rfl
  simp only [Act.put, List.setIfInBounds_toArray, List.set_cons_zero, List.set_cons_succ]
  refine wpQuiet_val (v := ?_) (by rfl) (fun w' hw' => ?_) ?_
  rotate_left
  · clear hw'
    go_simp
    exact rfl
  simp only [Act.put, List.setIfInBounds_toArray, List.set_cons_zero, List.set_cons_succ]
  refine wpQuiet_val (v := ?_) (by rfl) (fun w' hw' => ?_) ?_
  rotate_left
  · clear hw'
    go_simp
    exact rfl
  simp only [Act.put, List.setIfInBounds_toArray, List.set_cons_zero, List.set_cons_succ]
  refine wpQuiet_val (v := .int .u64 (p 14 16 : Nat)) (by rfl) (fun w' hw' => ?_) ?_
  · go_simp
    refine (HP.out 14 16 (by decide) w').mono ?_
    rintro e w2 ⟨rfl, rfl⟩
    exact ⟨rfl, hw'⟩
  simp only [Act.put, List.setIfInBounds_toArray, List.set_cons_zero, List.set_cons_succ]
  refine wpQuiet_val (v := ?_) (by rfl) (fun w' hw' => ?_) ?_
  rotate_left
  · clear hw'
    go_simp
    exact rfl
  simp only [Act.put, List.setIfInBounds_toArray, List.set_cons_zero, List.set_cons_succ]
  refine wpQuiet_val (v := ?_) (by rfl) (fun w' hw' => ?_) ?_
  rotate_left
  · clear hw'
    go_simp
    exact rfl
  simp only [Act.put, List.setIfInBounds_toArray, List.set_cons_zero, List.set_cons_succ]
  refine wpQuiet_val (v := ?_) (by rfl) (fun w' hw' => ?_) ?_
  rotate_left
  · clear hw'
    go_simp
    exact rfl
  simp only [Act.put, List.setIfInBounds_toArray, List.set_cons_zero, List.set_cons_succ]
  refine wpQuiet_val (v := ?_) (by rfl) (fun w' hw' => ?_) ?_
  rotate_left
  · clear hw'
    go_simp
    exact rfl
  simp only [Act.put, List.setIfInBounds_toArray, List.set_cons_zero, List.set_cons_succ]
  refine wpQuiet_val (v := ?_) (by rfl) (fun w' hw' => ?_) ?_
  rotate_left
  · clear hw'
    go_simp
    exact rfl
  simp only [Act.put, List.setIfInBounds_toArray, List.set_cons_zero, List.set_cons_succ]
  refine wpQuiet_val (v := ?_) (by rfl) (fun w' hw' => ?_) ?_
  rotate_left
  · clear hw'
    go_simp
    exact rfl
  simp only [Act.put, List.setIfInBounds_toArray, List.set_cons_zero, List.set_cons_succ]
  refine wpQuiet_val (v := ?_) (by rfl) (fun w' hw' => ?_) ?_
  rotate_left
  · clear hw'
    go_simp
    exact rfl
  simp only [Act.put, List.setIfInBounds_toArray, List.set_cons_zero, List.set_cons_succ]
  refine wpQuiet_nil ?_
  intro w' hw'
  have HW := Lib.hid hw'
  obtain ⟨f, d0, d1, d2, d3, d4, d5, d6, d7, d8, d9, d10, d11⟩ := hw'.1.cells12
  clear hw'
  go_wp2
  refine chain12 (motive := fun W => bodyPost _ _ _ _ _ W) HW.out.1 ?_
  intro W2 hA2 hO2
  have hL := seg_loadVar hA2 (by rfl)
  exact bodyPost_ret (v := .tuple #[.agg #[.int .i64 0, .int .u16 (p 0 2 : Nat), .int .u16 (p 2 4 : Nat), .int .u32 (p 4 8 : Nat), .int .u32 (p 8 12 : Nat), .bool syn, .bool ackOn, .bool fin, .bool rst, .int .u16 (p 14 16 : Nat), .string (s.extract 20 q), .string (s.extract q s.size)], .int .i64 0]) (by
    simp [results, Try.results49, asAddr, hL, t1, t2, t3, t4]) rfl ⟨rfl, below_only HW.out.2 hO2 HW.out.2.size (Nat.le_refl _)⟩

end Go.Proofs.Ytdkkfhlijapbeaa
