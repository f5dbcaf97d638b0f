/- The program's package sum, walked: Fold, Not. -/
import Derived.Test.YtbbkinldfpphdaaGreatDoorHp
import Derived.Test.YtbbkinldfpphdaaGreatDoorPl
namespace Go.Proofs.YtbbkinldfpphdaaGreatDoor
open Go.RowKit Pl

set_option maxHeartbeats 400000 in
theorem fold_any (n : Nat) (w : World) (hn : n ≤ 1000000000000) :
    Calls Tryz.prog 38 #[.int .u64 n] w fun e w' => e = .returned (.int .u16 (fold n : Nat)) ∧ w = w' := by
  go_enter Tryz.func38, Tryz.ntmps38
  go_wp2
  go_loop [0] (fun t => ∃ m : Nat, m ≤ 1000000000000 ∧ t = .int .u64 m ∧ Hid (fold m = fold n)) (fun t => (intOf t).toNat)
  case atStart => exact ⟨n, hn, rfl, rfl⟩
  case round =>
    obtain ⟨m, hm, rfl, HF⟩ := hrel
    by_cases h : 65535 < m
    · have ha : bits .and .u64 (m : Int) 65535 = ((m % 65536 : Nat) : Int) := by
        have := u64_and_nat m 65535 (by omega) (by omega)
        rw [nat_mask16] at this; exact this
      have hw : IntKind.u64.wrap ((m : Int) / 65536 + ((m % 65536 : Nat) : Int)) = ((m / 65536 + m % 65536 : Nat) : Int) := by
        rw [IntKind.wrap_u64]; omega
      go_wp2
      refine ⟨⟨m / 65536 + m % 65536, by omega, int_eq (by omega), (fold_step h).trans HF.out⟩, by simp [intOf]; omega⟩
    · go_wp2
      go_ret
      exact ⟨ret_int (by rw [← HF.out, fold_small (by omega)]), rfl⟩

set_option maxHeartbeats 400000 in
theorem not_any (a : Nat) (w : World) (h1 : a ≤ 65535) :
    Calls Tryz.prog 21 #[.int .u16 a] w fun e w' => e = .returned (.int .u16 (65535 - a : Nat)) ∧ w = w' := by
  go_enter Tryz.func21, Tryz.ntmps21
  go_wp2
  go_ret
  refine ⟨ret_int ?_, rfl⟩
  have e : bits .xor .u16 IntKind.u16.max (a : Int) = ((65535 ^^^ a : Nat) : Int) := u16_xor_nat 65535 a (by omega) (by omega)
  refine e.trans ?_
  rw [Nat.xor_comm, xor_ones16 a (by omega)]
end Go.Proofs.YtbbkinldfpphdaaGreatDoor
