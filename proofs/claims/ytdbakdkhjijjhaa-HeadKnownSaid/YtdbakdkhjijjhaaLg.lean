/- head.Long, walked. -/
import Derived.Test.YtdbakdkhjijjhaaHd
namespace Go.Proofs.Ytdbakdkhjijjhaa
open Go.RowKit Pl

/-- How many numbers a segment takes, as a machine counts. -/
def longZ (n : Int) (syn fin : Bool) : Int :=
  match syn, fin with
  | true, true => IntKind.i64.wrap (IntKind.i64.wrap (n + 1) + 1)
  | false, false => n
  | _, _ => IntKind.i64.wrap (n + 1)
set_option maxHeartbeats 1000000 in
theorem long_any (p a0 a1 a2 a3 a9 : Value) (syn ack fin rst : Bool) (area data : ByteArray) (w : World) :
    Calls Try.prog 11 #[.agg #[p, a0, a1, a2, a3, .bool syn, .bool ack, .bool fin, .bool rst, a9, .string area, .string data]] w fun e w' =>
      e = .returned (.int .i64 (longZ data.size syn fin)) ∧ Below w.heap.size w w' := by
  obtain ⟨z1, e1⟩ : ∃ z, IntKind.i64.wrap ((data.size : Int) + 1) = z := ⟨_, rfl⟩
  obtain ⟨z2, e2⟩ : ∃ z, IntKind.i64.wrap (z1 + 1) = z := ⟨_, rfl⟩
  go_enter Try.func11, Try.ntmps11
  go_wp2
  have i0 : ∀ (x y : Bool) (w : World), (Instr.index 65 (.agg #[.bool x, .bool y]) (.int .i64 0)).run Try.prog w = .ok (.bool x) w := fun _ _ _ => by kernel_rfl
  have i1 : ∀ (x y : Bool) (w : World), (Instr.index 65 (.agg #[.bool x, .bool y]) (.int .i64 1)).run Try.prog w = .ok (.bool y) w := fun _ _ _ => by kernel_rfl
  cases syn <;> cases fin
  all_goals
    refine wp_loop_rounds 3 ?_
    rw [rounds_succ]
    go_wp2
    rw [rounds_succ]
    go_wp2
    rw [rounds_succ]
    go_wp2
    go_ret
    refine ⟨ret_int ?_, (Below.refl _ _).alloc (Nat.le_refl _) _⟩
    simp [longZ, e1, e2]
end Go.Proofs.Ytdbakdkhjijjhaa
