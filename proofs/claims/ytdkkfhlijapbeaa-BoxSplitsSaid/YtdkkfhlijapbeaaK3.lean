/- Proved here: for every draft and two places, plaitlaw30.BoxSplits returns true and its arguments read as they did before. No condition. -/
import Derived.Test.YtdkkfhlijapbeaaOd
import Derived.Test.YtdkkfhlijapbeaaWs
namespace Go.Proofs.Ytdkkfhlijapbeaa
open Go.ChangeShapes Go.WideShapes Go.ChangeAt Go.RowKit

theorem boxSplits_reads : ∀ t ∈ Try.f5.params.toList, Try.prog.readableRec t = true ∧ t < Try.prog.types.size := by
  rw [Try.params5]
  intro t ht
  simp at ht
  rcases ht with rfl | rfl | rfl <;> exact ⟨by kernel_rfl, of_decide_eq_true (by kernel_rfl)⟩

set_option maxRecDepth 100000 in
theorem boxSplits_lifted (os : Os) (started : os.Started) (H : Type) (enc : TypeId × Value → H) :
    ReturnsInHanded {} Try.checked os 5 .any (Rows.boxSplitsSpec.pre6 enc Try.prog Try.f5 Rows.boxSplitsRow.domain false) (Rows.boxSplitsSpec.post enc Try.prog Try.f5 false true false false) := by
  refine returnsInHanded_of_change (C := Try.checked) own1 started (by kernel_rfl) Try.func5
    (ChangeSpec.witness6 (enc := enc) (C := Try.checked) false ⟨#[], #[.agg #[.int .u16 0, .int .u16 0, .int .u16 0, .int .u32 0, .int .u32 0, .int .u8 0, .slice none 0 0, .string ⟨#[]⟩, .string ⟨#[]⟩], .int .u8 0, .int .u8 0], []⟩ 8 (by kernel_rfl) (by kernel_rfl) (by kernel_rfl) (by kernel_rfl)) ?_
  intro W base args ds gs before hval0 hW hcnd _
  have hval : ∀ (j : Nat) t v, Try.f5.params[j]? = some t → args[j]? = some v → Value.okWide Try.prog W .any base t v := hval0
  have hW' := hW
  obtain ⟨p, q, hA0, hV, rfl, hfz, hnd⟩ := hW
  have hA : DataW.TrodAll enc Try.prog W 0 (fun _ => true) true Try.f5.params.toList args.toList ds p := hA0
  have hA2 := hA
  rw [Try.params5] at hA hval
  obtain ⟨v0, v1, v2, d0, d1, d2, p0, p1, p2, rfl, rfl, rfl, h0, h1, h2⟩ := trodAll_three hA
  obtain ⟨rfl, rfl⟩ := trodVars_none hV
  obtain ⟨d, rfl, hd⟩ := draft_open (hval 0 26 v0 rfl rfl) h0
  obtain ⟨_, rfl, k1⟩ := val_int Try.underlying5 (hval 1 5 v1 rfl rfl)
  obtain ⟨_, rfl, k2⟩ := val_int Try.underlying5 (hval 2 5 v2 rfl rfl)
  obtain ⟨n1, rfl, j1⟩ := has_u8 k1
  obtain ⟨n2, rfl, j2⟩ := has_u8 k2
  refine (boxSplits_any d n1 n2 W hd j1 j2).mono fun e W' ⟨he, hb⟩ => ?_
  subst he
  exact ⟨_, rfl, row_true laid1 boxSplits_reads rfl Try.underlying4 rfl rfl hW' hA2 (by simp) hb⟩

theorem boxSplits_holds : Rows.BoxSplitsSaid :=
  OpenClaim.holds_of_wide 5 Try.f5 rfl rfl rfl rfl rfl rfl rfl ⟨rfl, rfl, rfl, rfl, rfl⟩ rfl rfl rfl rfl rfl (by kernel_rfl) Try.func5 (by kernel_rfl)
    (of_decide_eq_true (by kernel_rfl)) (by unfold Func.isWrapper; first | (rw [if_pos (by decide +kernel)]; kernel_rfl) | (rw [if_neg (by decide +kernel)]; exact ⟨rfl, rfl⟩))
    (fun os started H enc _ => boxSplits_lifted os started H enc)

end Go.Proofs.Ytdkkfhlijapbeaa
