/- The document's sums, walked: Fold, Not, Of; its flags. -/
import Derived.Test.YtdkkfhlijapbeaaLd
import Derived.Test.YtdkkfhlijapbeaaRt
import Derived.Test.YtdkkfhlijapbeaaLay
namespace Go.Proofs.Ytdkkfhlijapbeaa
open Go.RowKit Pl

theorem rfold_any (n : Nat) (w : World) (hn : n ≤ 1000000000000) :
    Calls Try.prog 48 #[.int .u64 n] w fun e w' => e = .returned (.int .u16 (fold n : Nat)) ∧ w = w' := by
  by_cases h : n = 0
  · subst h
    go_enter Try.func48, Try.ntmps48
    go_wp2
    go_ret
    exact ⟨rfl, rfl⟩
  · have h1 : ((n : Int) == 0) = false := by simp; omega
    have h2 : IntKind.u64.wrap ((n : Int) - 1) = ((n - 1 : Nat) : Int) := by rw [IntKind.wrap_u64]; omega
    obtain ⟨m, hm⟩ : ∃ m, n - 1 = m := ⟨_, rfl⟩
    rw [hm] at h2
    have h3 : ((m : Int).tmod 65535) = ((m % 65535 : Nat) : Int) := by rw [Int.tmod_eq_emod_of_nonneg (by omega)]; omega
    have HF : Hid (fold n = m % 65535 + 1) := by unfold fold; rw [if_neg h, hm]; rfl
    go_enter Try.func48, Try.ntmps48
    go_wp2
    go_ret
    exact ⟨ret_int (by rw [HF.out]; omega), rfl⟩

theorem rnot_any (a : Nat) (w : World) (h1 : a ≤ 65535) :
    Calls Try.prog 24 #[.int .u16 a] w fun e w' => e = .returned (.int .u16 (65535 - a : Nat)) ∧ w = w' := by
  go_enter Try.func24, Try.ntmps24
  go_wp2
  go_ret
  exact ⟨ret_int (by omega), rfl⟩

set_option maxHeartbeats 1000000 in
theorem rflags_any (p a0 a1 a2 a3 a9 : Value) (syn ackOn fin rst : Bool) (area data : ByteArray) (w : World) :
    Calls Try.prog 23 #[.agg #[p, a0, a1, a2, a3, .bool syn, .bool ackOn, .bool fin, .bool rst, a9, .string area, .string data]] w fun e w' =>
      e = .returned (.int .u64 (fl syn ackOn fin rst 4 : Nat)) ∧ Below w.heap.size w w' := by
  cases fin <;> cases syn <;> cases rst <;> cases ackOn
  all_goals
    go_enter Try.func23, Try.ntmps23
    go_wp2
    go_ret
    refine ⟨rfl, (Below.refl _ _).alloc (Nat.le_refl _) _⟩

end Go.Proofs.Ytdkkfhlijapbeaa
