/- The document's bytes of a number. -/
import Derived.Test.YtdkkfhlijapbeaaLe
import Derived.Test.YtdkkfhlijapbeaaHd
namespace Go.Proofs.Ytdkkfhlijapbeaa
open Go.RowKit Pl

set_option maxHeartbeats 2000000 in
theorem laid_any (n k : Nat) (w : World) (_hn : n < 18446744073709551616) (hk : k ≤ 8) :
    Calls Try.prog 22 #[.int .u64 n, .int .i64 k] w fun e w' => e = .returned (.string ⟨(beL k n).toArray⟩) ∧ Below w.heap.size w w' := by
  obtain ⟨i0, hi, hz0, hz1, hz2⟩ := info_parts info_u8
  go_enter Try.func22, Try.ntmps22
  go_wp2
  go_loopw [5, 6] (fun out i wr => ∃ j : Nat, j ≤ k ∧ i = .int .i64 ((j : Int) - 1) ∧ Hid (wr.ownsRow w.heap.size 5 1 out (k - j) (cellsOf (beL (k - j) (n / 256 ^ j)))) ∧ Hid (Below w.heap.size w wr)) (fun _ i _ => (intOf i + 1).toNat)
  case atStart => exact ⟨k, Nat.le_refl _, rfl, by rw [Nat.sub_self]; exact World.ownsRow_nil _ _ _ _, Below.refl _ _⟩
  case round =>
    obtain ⟨j, hj, rfl, HO, HB⟩ := hrel
    cases j with
    | zero =>
      have hcv := own_conv HO.out
      go_wp2
      go_ret
      exact ⟨by simp, HB.out⟩
    | succ j =>
      have e : (((j + 1 : Nat) : Int) - 1) = (j : Int) := by omega
      rw [e]
      have hj8 : j < 8 := by omega
      have hv : (n : Int) / 2 ^ (8 * j) % 256 = ((UInt8.ofNat (n / 256 ^ j)).toNat : Int) := by
        rw [Int.pow_mul, UInt8.toNat_ofNat', Int.natCast_emod, Int.natCast_ediv, Int.natCast_pow]
        rfl
      have hl : beL (k - j) (n / 256 ^ j) = beL (k - (j + 1)) (n / 256 ^ (j + 1)) ++ [UInt8.ofNat (n / 256 ^ j)] := by
        rw [show k - j = (k - (j + 1)) + 1 by omega, beL, Nat.div_div_eq_div_mul, Nat.pow_succ]
      have HV := Lib.hid hv
      have HL := Lib.hid hl
      clear hv hl
      go_wp2_with (at_builtin; refine wpList_append_own _ rfl _ _ 24 rfl w.heap.size 5 i0 (.int .u8 0) 1 1 Try.underlying24 hi hz0 hz1 hz2 rfl (by decide) _ _ _ rfl (HO.out.alloc _) ⟨wr.heap.size, 0, none⟩ 1 1 [.int .u8 ((n : Int) / 2 ^ (8 * j) % 256)] rfl rfl ?c1 ?c2 ?c3 ?c4 ?c5 ?_)
      case c1 =>
        intro j' u hu
        cases j' with
        | zero => simp at hu; subst hu; exact (At.of_new wr _ _).cell 0
        | succ _ => simp at hu
      case c2 => intro u hu; simp at hu; subst hu; rfl
      case c3 => exact (by simp [maxLen]; omega)
      case c4 => omega
      case c5 => have := HB.out.size; simp; omega
      intro v' w1 hown' hgrow _
      go_wp2
      refine ⟨⟨j, by omega, rfl, ?_, ?_⟩, by simp [intOf]⟩
      · show w1.ownsRow _ _ _ _ _ _
        rw [HL.out, show k - j = k - (j + 1) + 1 by omega, cellsOf, List.map_append, ← cellsOf]
        rw [HV.out] at hown'
        exact hown'
      · exact (HB.out.alloc HB.out.size _).grown hgrow (by have := HB.out.size; simp; omega) (fun k hk => (HO.out.lt k hk).1)


set_option maxHeartbeats 1000000 in
theorem num_any (s : ByteArray) (w : World) (hs : s.size ≤ 4) :
    Calls Try.prog 56 #[.string s] w fun e w' => e = .returned (.int .u64 (numL s.data.toList : Nat)) ∧ w = w' := by
  go_enter Try.func56, Try.ntmps56
  go_wp2
  trace_state
  go_loop [3, 4] (fun n i => ∃ k : Nat, k ≤ s.size ∧ i = .int .i64 k ∧ n = .int .u64 (numL (s.data.toList.take k) : Nat)) (fun _ i => s.size - (intOf i).toNat)
  case atStart => exact ⟨0, Nat.zero_le _, rfl, rfl⟩
  case round =>
    obtain ⟨k, hk, rfl, rfl⟩ := hrel
    obtain ⟨m, hm⟩ : ∃ m, numL (s.data.toList.take k) = m := ⟨_, rfl⟩
    have hlt1 : numL (s.data.toList.take k) < 256 ^ k := by
      have := numL_lt (s.data.toList.take k)
      refine Nat.lt_of_lt_of_le this (Nat.pow_le_pow_right (by omega) (by rw [List.length_take]; omega))
    rw [hm] at hlt1 ⊢
    by_cases hlt : k < s.size
    · have hm24 : m < 16777216 := Nat.lt_of_lt_of_le hlt1 (Nat.pow_le_pow_right (n := 256) (by omega) (by omega : k ≤ 3))
      have HS : Hid (numL (s.data.toList.take (k + 1)) = m * 256 + s[k].toNat) := by
        rw [take_snoc s k hlt, numL_snoc, hm]; rfl
      clear hm hlt1
      have hb := s[k].toNat_lt
      go_wp2
      exact ⟨⟨k + 1, by omega, int_eq (by omega), int_eq (by rw [HS.out]; omega)⟩, by simp [intOf]; omega⟩
    · go_wp2
      go_ret
      exact ⟨ret_int (by rw [← hm, List.take_of_length_le (by simp; omega)]), rfl⟩

end Go.Proofs.Ytdkkfhlijapbeaa
