/- The document's number of bytes. -/
import Derived.Test.YtdkkfhlijapbeaaHd
namespace Go.Proofs.Ytdkkfhlijapbeaa
open Go.RowKit Pl

set_option maxHeartbeats 1000000 in
theorem num_any (s : ByteArray) (w : World) (hs : s.size ≤ 4) :
    Calls Try.prog 56 #[.string s] w fun e w' => e = .returned (.int .u64 (numL s.data.toList : Nat)) ∧ w = w' := by
  go_enter Try.func56, Try.ntmps56
  go_wp2
  trace_state
  go_loop [3, 4] (fun n i => ∃ k : Nat, k ≤ s.size ∧ i = .int .i64 k ∧ n = .int .u64 (numL (s.data.toList.take k) : Nat)) (fun _ i => s.size - (intOf i).toNat)
  case atStart => exact ⟨0, Nat.zero_le _, rfl, rfl⟩
  case round =>
    obtain ⟨k, hk, rfl, rfl⟩ := hrel
    obtain ⟨m, hm⟩ : ∃ m, numL (s.data.toList.take k) = m := ⟨_, rfl⟩
    have hlt1 : numL (s.data.toList.take k) < 256 ^ k := by
      have := numL_lt (s.data.toList.take k)
      refine Nat.lt_of_lt_of_le this (Nat.pow_le_pow_right (by omega) (by rw [List.length_take]; omega))
    rw [hm] at hlt1 ⊢
    by_cases hlt : k < s.size
    · have hm24 : m < 16777216 := Nat.lt_of_lt_of_le hlt1 (Nat.pow_le_pow_right (n := 256) (by omega) (by omega : k ≤ 3))
      have HS : Hid (numL (s.data.toList.take (k + 1)) = m * 256 + s[k].toNat) := by
        rw [take_snoc s k hlt, numL_snoc, hm]; rfl
      clear hm hlt1
      have hb := s[k].toNat_lt
      go_wp2
      exact ⟨⟨k + 1, by omega, int_eq (by omega), int_eq (by rw [HS.out]; omega)⟩, by simp [intOf]; omega⟩
    · go_wp2
      go_ret
      exact ⟨ret_int (by rw [← hm, List.take_of_length_le (by simp; omega)]), rfl⟩

end Go.Proofs.Ytdkkfhlijapbeaa
