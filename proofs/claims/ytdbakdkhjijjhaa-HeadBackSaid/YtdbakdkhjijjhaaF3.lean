/- Proved here: for every segment, shape and text, plaitlaw05.HeadBack returns true and the arguments read as they did before. No condition. -/
import Derived.Test.YtdbakdkhjijjhaaOp
import Derived.Test.YtdbakdkhjijjhaaL3
namespace Go.Proofs.Ytdbakdkhjijjhaa
open Go.ChangeShapes Go.WideShapes Go.ChangeAt Go.RowKit

theorem headBack_reads : ∀ t ∈ Try.f5.params.toList, Try.prog.readableRec t = true ∧ t < Try.prog.types.size := by
  rw [Try.params5]
  intro t ht
  simp at ht
  rcases ht with rfl | rfl | rfl <;> exact ⟨by kernel_rfl, of_decide_eq_true (by kernel_rfl)⟩

set_option maxRecDepth 100000 in
theorem headBack_lifted (os : Os) (started : os.Started) (H : Type) (enc : TypeId × Value → H) :
    ReturnsInHanded {} Try.checked os 5 .any (Rows.headBackSpec.pre6 enc Try.prog Try.f5 Rows.headBackRow.domain false) (Rows.headBackSpec.post enc Try.prog Try.f5 false true false false) := by
  refine returnsInHanded_of_change (C := Try.checked) own1 started (by kernel_rfl) Try.func5
    (ChangeSpec.witness6 (enc := enc) (C := Try.checked) false ⟨#[], #[.agg #[.int .i64 0, .int .u16 0, .int .u16 0, .int .u32 0, .int .u32 0, .bool false, .bool false, .bool false, .bool false, .int .u16 0, .string ⟨#[]⟩, .string ⟨#[]⟩], .agg #[.int .u8 0, .int .u16 0, .int .u8 0], .string ⟨#[]⟩], []⟩ 8 (by kernel_rfl) (by kernel_rfl) (by kernel_rfl) (by kernel_rfl)) ?_
  intro W base args ds gs before hval0 hW hcnd _
  have hval : ∀ (j : Nat) t v, Try.f5.params[j]? = some t → args[j]? = some v → Value.okWide Try.prog W .any base t v := hval0
  have hW' := hW
  obtain ⟨p, q, hA0, hV, rfl, hfz, hnd⟩ := hW
  have hA : DataW.TrodAll enc Try.prog W 0 (fun _ => true) true Try.f5.params.toList args.toList ds p := hA0
  have hA2 := hA
  rw [Try.params5] at hA hval
  obtain ⟨v0, v1, v2, d0, d1, d2, p0, p1, p2, rfl, rfl, rfl, h0, h1, h2⟩ := trodAll_three hA
  obtain ⟨rfl, rfl⟩ := trodVars_none hV
  obtain ⟨path, src, dst, seq, ack, syn, ackOn, fin, rst, win, area, data, rfl, k0, k1, k2, k3, k4, k5, k6⟩ := seg_open (hval 0 25 v0 rfl rfl)
  obtain ⟨sa, sd, sl, rfl, j0, j1, j2⟩ := shape_open (hval 1 27 v1 rfl rfl)
  obtain ⟨raw, rfl, hraw⟩ := val_string Try.underlying9 (hval 2 9 v2 rfl rfl)
  refine (headBack_any sa sd sl path src dst seq ack syn ackOn fin rst win area data raw W j0 j1 j2 k0 k1 k2 k3 k4 k5 k6 hraw).mono fun e W' ⟨he, hb⟩ => ?_
  subst he
  exact ⟨_, rfl, row_true laid1 headBack_reads rfl Try.underlying4 rfl rfl hW' hA2 (by simp) hb⟩

theorem headBack_holds : Rows.HeadBackSaid :=
  OpenClaim.holds_of_wide 5 Try.f5 rfl rfl rfl rfl rfl rfl rfl ⟨rfl, rfl, rfl, rfl, rfl⟩ rfl rfl rfl rfl rfl (by kernel_rfl) Try.func5 (by kernel_rfl)
    (of_decide_eq_true (by kernel_rfl)) (by unfold Func.isWrapper; first | (rw [if_pos (by decide +kernel)]; kernel_rfl) | (rw [if_neg (by decide +kernel)]; exact ⟨rfl, rfl⟩))
    (fun os started H enc _ => headBack_lifted os started H enc)

end Go.Proofs.Ytdbakdkhjijjhaa
