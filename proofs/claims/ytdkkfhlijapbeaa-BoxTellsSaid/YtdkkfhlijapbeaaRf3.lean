/- The document's sum of a text, walked. -/
import Derived.Test.YtdkkfhlijapbeaaRo
import Derived.Test.YtdkkfhlijapbeaaRg
namespace Go.Proofs.Ytdkkfhlijapbeaa
open Go.RowKit Pl

theorem bytes_drop (t : ByteArray) (i : Nat) (h : i + 1 < t.size) : t.data.toList.take (i + 2) = t.data.toList.take i ++ [t[i]'(by omega), t[i + 1]'h] := by
  rw [take_snoc t (i + 1) h, take_snoc t i (by omega), List.append_assoc]; rfl
theorem sumL_two (t : ByteArray) (i : Nat) (h : i + 1 < t.size) (he : i % 2 = 0) :
    sumL (t.data.toList.take (i + 2)) = sumL (t.data.toList.take i) + ((t[i]'(by omega)).toNat * 256 + (t[i + 1]'h).toNat) := by
  rw [bytes_drop t i h, ← sumF_words, wordsF_two _ _ _ (by rw [List.length_take, bytes_len]; omega), sumF_snoc, sumF_words]
  rfl
theorem sumL_odd (l : List UInt8) (h : l.length % 2 = 1) : sumL (l ++ [0]) = sumL l := by
  rcases List.eq_nil_or_concat l with rfl | ⟨q, c, rfl⟩
  · simp at h
  · have hq : q.length % 2 = 0 := by simp at h; omega
    rw [List.concat_eq_append, List.append_assoc, List.singleton_append, ← sumF_words, ← sumF_words, wordsF_two _ _ _ hq, wordsF_one _ _ hq]

set_option maxHeartbeats 2000000 in
theorem rof_even (t : ByteArray) (w : World) (hs : t.size ≤ 1000000) (h : t.size % 2 = 0) :
    Calls Try.prog 25 #[.string t] w fun e w' => e = .returned (.int .u16 (fold (sumL t.data.toList) : Nat)) ∧ Below w.heap.size w w' := by
  have h1 : (((t.size : Int) % 2) == 1) = false := by simp; omega
  go_enter Try.func25, Try.ntmps25
  go_wp2
  go_loopw [3, 4] (fun n i wr => ∃ k m : Nat, k ≤ t.size ∧ k % 2 = 0 ∧ i = .int .i64 k ∧ n = .int .u64 m ∧ Hid (m = sumL (t.data.toList.take k)) ∧ Hid (Below w.heap.size w wr)) (fun _ i _ => t.size - (intOf i).toNat)
  case atStart => exact ⟨0, 0, Nat.zero_le _, rfl, rfl, rfl, rfl, Below.refl _ _⟩
  case round =>
    obtain ⟨k, m, hk, hk2, rfl, rfl, HM, HB⟩ := hrel
    have hm : m ≤ 65535 * 1000001 := by
      rw [HM.out]
      refine Nat.le_trans (sumL_le _) (Nat.mul_le_mul_left _ ?_)
      rw [List.length_take]; omega
    by_cases hlt : k < t.size
    · have hlt1 : k + 1 < t.size := by omega
      have HS := Lib.hid (sumL_two t k hlt1 hk2)
      have b0 := (t[k]'hlt).toNat_lt
      have b1 := (t[k + 1]'hlt1).toNat_lt
      go_upto_region 7 with fail
      obtain ⟨c0, hc0⟩ : ∃ c, (t[k]'hlt).toNat = c := ⟨_, rfl⟩
      obtain ⟨c1, hc1⟩ : ∃ c, (t[k + 1]'hlt1).toNat = c := ⟨_, rfl⟩
      rw [hc0, hc1] at HS
      rw [hc0] at b0
      rw [hc1] at b1
      have i0 : ∀ w, (Instr.index 9 (.string t) (.int .i64 (k : Int))).run Try.prog w = .ok (.int .u8 (c0 : Nat)) w := fun w => by go_simp
      have i1 : ∀ w, (Instr.index 9 (.string t) (.int .i64 ((k : Int) + 1))).run Try.prog w = .ok (.int .u8 (c1 : Nat)) w := fun w => by
        have := hc1
        have e2 : (0 : Int) ≤ (k : Int) + 1 := by omega
        have e3 : ((k : Int) + 1).toNat = k + 1 := by omega
        go_simp
        intro hh; omega
      have v0 : IntKind.i64.wrap ((k : Int) + 1) = (k : Int) + 1 := IntWalk.i64_in _ (by omega)
      have v1 : IntKind.u64.wrap (256 * (c0 : Int)) = 256 * (c0 : Int) := IntWalk.u64_in _ (by omega)
      have v2 : IntKind.u64.wrap ((m : Int) + 256 * (c0 : Int)) = (m : Int) + 256 * (c0 : Int) := IntWalk.u64_in _ (by omega)
      have v3 : IntKind.u64.wrap ((m : Int) + 256 * (c0 : Int) + (c1 : Int)) = ((m + (c0 * 256 + c1) : Nat) : Int) := by rw [IntKind.wrap_u64]; omega
      have v4 : IntKind.u64.wrap (c0 : Int) = c0 := IntWalk.u64_in _ (by omega)
      have v5 : IntKind.u64.wrap (c1 : Int) = c1 := IntWalk.u64_in _ (by omega)
      refine wp_region_head 12 (fun w' => Below w.heap.size w w') (by kernel_rfl) (by kernel_rfl) HB.out.drew ?_
      simp only [List.take_succ_cons, List.take_zero, List.drop_succ_cons, List.drop_zero]
      have HH := Lib.hid hlt1
      clear hc1 hc0 hlt1 hm b0 b1 HB
      refine wpQuiet_val (v := ?_) (by rfl) (fun w' hw' => ?_) ?_
      rotate_left
      · clear hw'
        go_simp
        exact rfl
      simp only [Act.put, List.setIfInBounds_toArray, List.set_cons_zero, List.set_cons_succ]
      refine wpQuiet_val (v := ?_) (by rfl) (fun w' hw' => ?_) ?_
      rotate_left
      · clear hw'
        go_simp
        exact rfl
      simp only [Act.put, List.setIfInBounds_toArray, List.set_cons_zero, List.set_cons_succ]
      refine wpQuiet_val (v := ?_) (by rfl) (fun w' hw' => ?_) ?_
      rotate_left
      · clear hw'
        go_simp
        exact rfl
      simp only [Act.put, List.setIfInBounds_toArray, List.set_cons_zero, List.set_cons_succ]
      refine wpQuiet_val (v := ?_) (by rfl) (fun w' hw' => ?_) ?_
      rotate_left
      · clear hw'
        go_simp
        exact rfl
      simp only [Act.put, List.setIfInBounds_toArray, List.set_cons_zero, List.set_cons_succ]
      refine wpQuiet_val (v := ?_) (by rfl) (fun w' hw' => ?_) ?_
      rotate_left
      · clear hw'
        go_simp
        exact rfl
      simp only [Act.put, List.setIfInBounds_toArray, List.set_cons_zero, List.set_cons_succ]
      refine wpQuiet_val (v := ?_) (by rfl) (fun w' hw' => ?_) ?_
      rotate_left
      · clear hw'
        go_simp
        exact rfl
      simp only [Act.put, List.setIfInBounds_toArray, List.set_cons_zero, List.set_cons_succ]
      refine wpQuiet_val (v := ?_) (by rfl) (fun w' hw' => ?_) ?_
      rotate_left
      · clear hw'
        go_simp
        exact rfl
      simp only [Act.put, List.setIfInBounds_toArray, List.set_cons_zero, List.set_cons_succ]
      refine wpQuiet_val (v := ?_) (by rfl) (fun w' hw' => ?_) ?_
      rotate_left
      · clear hw'
        go_simp
        exact rfl
      simp only [Act.put, List.setIfInBounds_toArray, List.set_cons_zero, List.set_cons_succ]
      refine wpQuiet_val (v := ?_) (by rfl) (fun w' hw' => ?_) ?_
      rotate_left
      · clear hw'
        go_simp
        exact rfl
      simp only [Act.put, List.setIfInBounds_toArray, List.set_cons_zero, List.set_cons_succ]
      refine wpQuiet_val (v := ?_) (by rfl) (fun w' hw' => ?_) ?_
      rotate_left
      · clear hw'
        go_simp
        exact rfl
      simp only [Act.put, List.setIfInBounds_toArray, List.set_cons_zero, List.set_cons_succ]
      refine wpQuiet_val (v := ?_) (by rfl) (fun w' hw' => ?_) ?_
      rotate_left
      · clear hw'
        go_simp
        exact rfl
      simp only [Act.put, List.setIfInBounds_toArray, List.set_cons_zero, List.set_cons_succ]
      refine wpQuiet_val (v := ?_) (by rfl) (fun w' hw' => ?_) ?_
      rotate_left
      · clear hw'
        go_simp
        exact rfl
      simp only [Act.put, List.setIfInBounds_toArray, List.set_cons_zero, List.set_cons_succ]
      refine wpQuiet_nil ?_
      intro w' hw'
      have HW := Lib.hid hw'
      clear hw'
      go_wp2
      exact ⟨⟨k + 2, m + (c0 * 256 + c1), by have := HH.out; omega, by omega, int_eq (by omega), int_eq (by omega), by rw [HS.out, HM.out]; rfl, HW.out⟩, by have := HH.out; simp [intOf]; omega⟩
    · go_wp2_with (go_at_call 48; refine (rfold_any m _ (by omega)).mono ?_; rintro e w2 ⟨rfl, rfl⟩)
      go_ret
      refine ⟨ret_int ?_, HB.out⟩
      rw [HM.out, List.take_of_length_le (by rw [bytes_len]; omega)]

set_option maxHeartbeats 2000000 in
theorem rof_odd (s : ByteArray) (w : World) (hs : s.size ≤ 999999) (h : s.size % 2 = 1) :
    Calls Try.prog 25 #[.string s] w fun e w' => e = .returned (.int .u16 (fold (sumL s.data.toList) : Nat)) ∧ Below w.heap.size w w' := by
  have h1 : (((s.size : Int) % 2) == 1) = true := by simp; omega
  rw [← sumL_odd s.data.toList (by rw [bytes_len]; exact h)]
  have he : (s ++ ⟨#[0]⟩).data.toList = s.data.toList ++ [0] := by simp
  rw [← he]
  have hsz : (s ++ ⟨#[0]⟩).size = s.size + 1 := ByteArray.size_append
  go_enter Try.func25, Try.ntmps25
  go_wp2
  obtain ⟨t, ht⟩ : ∃ t, s ++ (⟨#[0]⟩ : ByteArray) = t := ⟨_, rfl⟩
  rw [ht] at hsz ⊢
  replace hs : t.size ≤ 1000000 := by omega
  have h : t.size % 2 = 0 := by omega
  have HT := Lib.hid ht
  clear ht he hsz
  go_loopw [3, 4] (fun n i wr => ∃ k m : Nat, k ≤ t.size ∧ k % 2 = 0 ∧ i = .int .i64 k ∧ n = .int .u64 m ∧ Hid (m = sumL (t.data.toList.take k)) ∧ Hid (Below w.heap.size w wr)) (fun _ i _ => t.size - (intOf i).toNat)
  case atStart => exact ⟨0, 0, Nat.zero_le _, rfl, rfl, rfl, rfl, Below.refl _ _⟩
  case round =>
    obtain ⟨k, m, hk, hk2, rfl, rfl, HM, HB⟩ := hrel
    have hm : m ≤ 65535 * 1000001 := by
      rw [HM.out]
      refine Nat.le_trans (sumL_le _) (Nat.mul_le_mul_left _ ?_)
      rw [List.length_take]; omega
    by_cases hlt : k < t.size
    · have hlt1 : k + 1 < t.size := by omega
      have HS := Lib.hid (sumL_two t k hlt1 hk2)
      have b0 := (t[k]'hlt).toNat_lt
      have b1 := (t[k + 1]'hlt1).toNat_lt
      go_upto_region 7 with fail
      obtain ⟨c0, hc0⟩ : ∃ c, (t[k]'hlt).toNat = c := ⟨_, rfl⟩
      obtain ⟨c1, hc1⟩ : ∃ c, (t[k + 1]'hlt1).toNat = c := ⟨_, rfl⟩
      rw [hc0, hc1] at HS
      rw [hc0] at b0
      rw [hc1] at b1
      have i0 : ∀ w, (Instr.index 9 (.string t) (.int .i64 (k : Int))).run Try.prog w = .ok (.int .u8 (c0 : Nat)) w := fun w => by go_simp
      have i1 : ∀ w, (Instr.index 9 (.string t) (.int .i64 ((k : Int) + 1))).run Try.prog w = .ok (.int .u8 (c1 : Nat)) w := fun w => by
        have := hc1
        have e2 : (0 : Int) ≤ (k : Int) + 1 := by omega
        have e3 : ((k : Int) + 1).toNat = k + 1 := by omega
        go_simp
        intro hh; omega
      have v0 : IntKind.i64.wrap ((k : Int) + 1) = (k : Int) + 1 := IntWalk.i64_in _ (by omega)
      have v1 : IntKind.u64.wrap (256 * (c0 : Int)) = 256 * (c0 : Int) := IntWalk.u64_in _ (by omega)
      have v2 : IntKind.u64.wrap ((m : Int) + 256 * (c0 : Int)) = (m : Int) + 256 * (c0 : Int) := IntWalk.u64_in _ (by omega)
      have v3 : IntKind.u64.wrap ((m : Int) + 256 * (c0 : Int) + (c1 : Int)) = ((m + (c0 * 256 + c1) : Nat) : Int) := by rw [IntKind.wrap_u64]; omega
      have v4 : IntKind.u64.wrap (c0 : Int) = c0 := IntWalk.u64_in _ (by omega)
      have v5 : IntKind.u64.wrap (c1 : Int) = c1 := IntWalk.u64_in _ (by omega)
      refine wp_region_head 12 (fun w' => Below w.heap.size w w') (by kernel_rfl) (by kernel_rfl) HB.out.drew ?_
      simp only [List.take_succ_cons, List.take_zero, List.drop_succ_cons, List.drop_zero]
      have HH := Lib.hid hlt1
      clear hc1 hc0 hlt1 hm b0 b1 HB
      refine wpQuiet_val (v := ?_) (by rfl) (fun w' hw' => ?_) ?_
      rotate_left
      · clear hw'
        go_simp
        exact rfl
      simp only [Act.put, List.setIfInBounds_toArray, List.set_cons_zero, List.set_cons_succ]
      refine wpQuiet_val (v := ?_) (by rfl) (fun w' hw' => ?_) ?_
      rotate_left
      · clear hw'
        go_simp
        exact rfl
      simp only [Act.put, List.setIfInBounds_toArray, List.set_cons_zero, List.set_cons_succ]
      refine wpQuiet_val (v := ?_) (by rfl) (fun w' hw' => ?_) ?_
      rotate_left
      · clear hw'
        go_simp
        exact rfl
      simp only [Act.put, List.setIfInBounds_toArray, List.set_cons_zero, List.set_cons_succ]
      refine wpQuiet_val (v := ?_) (by rfl) (fun w' hw' => ?_) ?_
      rotate_left
      · clear hw'
        go_simp
        exact rfl
      simp only [Act.put, List.setIfInBounds_toArray, List.set_cons_zero, List.set_cons_succ]
      refine wpQuiet_val (v := ?_) (by rfl) (fun w' hw' => ?_) ?_
      rotate_left
      · clear hw'
        go_simp
        exact rfl
      simp only [Act.put, List.setIfInBounds_toArray, List.set_cons_zero, List.set_cons_succ]
      refine wpQuiet_val (v := ?_) (by rfl) (fun w' hw' => ?_) ?_
      rotate_left
      · clear hw'
        go_simp
        exact rfl
      simp only [Act.put, List.setIfInBounds_toArray, List.set_cons_zero, List.set_cons_succ]
      refine wpQuiet_val (v := ?_) (by rfl) (fun w' hw' => ?_) ?_
      rotate_left
      · clear hw'
        go_simp
        exact rfl
      simp only [Act.put, List.setIfInBounds_toArray, List.set_cons_zero, List.set_cons_succ]
      refine wpQuiet_val (v := ?_) (by rfl) (fun w' hw' => ?_) ?_
      rotate_left
      · clear hw'
        go_simp
        exact rfl
      simp only [Act.put, List.setIfInBounds_toArray, List.set_cons_zero, List.set_cons_succ]
      refine wpQuiet_val (v := ?_) (by rfl) (fun w' hw' => ?_) ?_
      rotate_left
      · clear hw'
        go_simp
        exact rfl
      simp only [Act.put, List.setIfInBounds_toArray, List.set_cons_zero, List.set_cons_succ]
      refine wpQuiet_val (v := ?_) (by rfl) (fun w' hw' => ?_) ?_
      rotate_left
      · clear hw'
        go_simp
        exact rfl
      simp only [Act.put, List.setIfInBounds_toArray, List.set_cons_zero, List.set_cons_succ]
      refine wpQuiet_val (v := ?_) (by rfl) (fun w' hw' => ?_) ?_
      rotate_left
      · clear hw'
        go_simp
        exact rfl
      simp only [Act.put, List.setIfInBounds_toArray, List.set_cons_zero, List.set_cons_succ]
      refine wpQuiet_val (v := ?_) (by rfl) (fun w' hw' => ?_) ?_
      rotate_left
      · clear hw'
        go_simp
        exact rfl
      simp only [Act.put, List.setIfInBounds_toArray, List.set_cons_zero, List.set_cons_succ]
      refine wpQuiet_nil ?_
      intro w' hw'
      have HW := Lib.hid hw'
      clear hw'
      go_wp2
      exact ⟨⟨k + 2, m + (c0 * 256 + c1), by have := HH.out; omega, by omega, int_eq (by omega), int_eq (by omega), by rw [HS.out, HM.out]; rfl, HW.out⟩, by have := HH.out; simp [intOf]; omega⟩
    · go_wp2_with (go_at_call 48; refine (rfold_any m _ (by omega)).mono ?_; rintro e w2 ⟨rfl, rfl⟩)
      go_ret
      refine ⟨ret_int ?_, HB.out⟩
      rw [HT.out, HM.out, List.take_of_length_le (by rw [bytes_len]; omega)]

theorem rof_any (s : ByteArray) (w : World) (hs : s.size ≤ 999999) :
    Calls Try.prog 25 #[.string s] w fun e w' => e = .returned (.int .u16 (fold (sumL s.data.toList) : Nat)) ∧ Below w.heap.size w w' := by
  rcases Nat.mod_two_eq_zero_or_one s.size with h | h
  · exact rof_even s w (by omega) h
  · exact rof_odd s w hs h

end Go.Proofs.Ytdkkfhlijapbeaa
