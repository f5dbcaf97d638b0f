/- Proved here: for every segment, shape, place and difference, plaitlaw05.HeadByte returns true and the arguments read as they did before. No condition. -/
import Derived.Test.YtdbakdkhjijjhaaOp
import Derived.Test.YtdbakdkhjijjhaaL4
namespace Go.Proofs.Ytdbakdkhjijjhaa
open Go.ChangeShapes Go.WideShapes Go.ChangeAt Go.RowKit

theorem headByte_reads : ∀ t ∈ Try.f6.params.toList, Try.prog.readableRec t = true ∧ t < Try.prog.types.size := by
  rw [Try.params6]
  intro t ht
  simp at ht
  rcases ht with rfl | rfl | rfl | rfl <;> exact ⟨by kernel_rfl, of_decide_eq_true (by kernel_rfl)⟩

set_option maxRecDepth 100000 in
theorem headByte_lifted (os : Os) (started : os.Started) (H : Type) (enc : TypeId × Value → H) :
    ReturnsInHanded {} Try.checked os 6 .any (Rows.headByteSpec.pre6 enc Try.prog Try.f6 Rows.headByteRow.domain false) (Rows.headByteSpec.post enc Try.prog Try.f6 false true false false) := by
  refine returnsInHanded_of_change (C := Try.checked) own1 started (by kernel_rfl) Try.func6
    (ChangeSpec.witness6 (enc := enc) (C := Try.checked) false ⟨#[], #[.agg #[.int .i64 0, .int .u16 0, .int .u16 0, .int .u32 0, .int .u32 0, .bool false, .bool false, .bool false, .bool false, .int .u16 0, .string ⟨#[]⟩, .string ⟨#[]⟩], .agg #[.int .u8 0, .int .u16 0, .int .u8 0], .int .u16 0, .int .u8 0], []⟩ 8 (by kernel_rfl) (by kernel_rfl) (by kernel_rfl) (by kernel_rfl)) ?_
  intro W base args ds gs before hval0 hW hcnd _
  have hval : ∀ (j : Nat) t v, Try.f6.params[j]? = some t → args[j]? = some v → Value.okWide Try.prog W .any base t v := hval0
  have hW' := hW
  obtain ⟨p, q, hA0, hV, rfl, hfz, hnd⟩ := hW
  have hA : DataW.TrodAll enc Try.prog W 0 (fun _ => true) true Try.f6.params.toList args.toList ds p := hA0
  have hA2 := hA
  rw [Try.params6] at hA hval
  obtain ⟨v0, v1, v2, v3, d0, d1, d2, d3, p0, p1, p2, p3, rfl, rfl, rfl, h0, h1, h2, h3⟩ := trodAll_four hA
  obtain ⟨rfl, rfl⟩ := trodVars_none hV
  obtain ⟨path, src, dst, seq, ack, syn, ackOn, fin, rst, win, area, data, rfl, k0, k1, k2, k3, k4, k5, k6⟩ := seg_open (hval 0 25 v0 rfl rfl)
  obtain ⟨sa, sd, sl, rfl, j0, j1, j2⟩ := shape_open (hval 1 27 v1 rfl rfl)
  obtain ⟨_, rfl, x2⟩ := val_int Try.underlying22 (hval 2 22 v2 rfl rfl)
  obtain ⟨_, rfl, x3⟩ := val_int Try.underlying5 (hval 3 5 v3 rfl rfl)
  obtain ⟨n, rfl, i2⟩ := has_u16 x2
  obtain ⟨m, rfl, i3⟩ := has_u8 x3
  refine (headByte_any sa sd sl path src dst seq ack syn ackOn fin rst win area data n m W j0 j1 j2 i2 i3 k0 k1 k2 k3 k4).mono fun e W' ⟨he, hb⟩ => ?_
  subst he
  exact ⟨_, rfl, row_true laid1 headByte_reads rfl Try.underlying4 rfl rfl hW' hA2 (by simp) hb⟩

theorem headByte_holds : Rows.HeadByteSaid :=
  OpenClaim.holds_of_wide 6 Try.f6 rfl rfl rfl rfl rfl rfl rfl ⟨rfl, rfl, rfl, rfl, rfl⟩ rfl rfl rfl rfl rfl (by kernel_rfl) Try.func6 (by kernel_rfl)
    (of_decide_eq_true (by kernel_rfl)) (by unfold Func.isWrapper; first | (rw [if_pos (by decide +kernel)]; kernel_rfl) | (rw [if_neg (by decide +kernel)]; exact ⟨rfl, rfl⟩))
    (fun os started H enc _ => headByte_lifted os started H enc)

end Go.Proofs.Ytdbakdkhjijjhaa
