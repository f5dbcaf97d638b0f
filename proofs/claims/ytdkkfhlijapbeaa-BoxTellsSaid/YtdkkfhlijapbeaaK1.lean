/- Proved here: for every two drafts, place and number, plaitlaw30.BoxTells returns true and its arguments read as they did before. No condition. -/
import Derived.Test.YtdkkfhlijapbeaaOd
import Derived.Test.YtdkkfhlijapbeaaWl
namespace Go.Proofs.Ytdkkfhlijapbeaa
open Go.ChangeShapes Go.WideShapes Go.ChangeAt Go.RowKit

theorem boxTells_reads : ∀ t ∈ Try.f3.params.toList, Try.prog.readableRec t = true ∧ t < Try.prog.types.size := by
  rw [Try.params3]
  intro t ht
  simp at ht
  rcases ht with rfl | rfl | rfl | rfl <;> exact ⟨by kernel_rfl, of_decide_eq_true (by kernel_rfl)⟩

set_option maxRecDepth 100000 in
theorem boxTells_lifted (os : Os) (started : os.Started) (H : Type) (enc : TypeId × Value → H) :
    ReturnsInHanded {} Try.checked os 3 .any (Rows.boxTellsSpec.pre6 enc Try.prog Try.f3 Rows.boxTellsRow.domain false) (Rows.boxTellsSpec.post enc Try.prog Try.f3 false true false false) := by
  refine returnsInHanded_of_change (C := Try.checked) own1 started (by kernel_rfl) Try.func3
    (ChangeSpec.witness6 (enc := enc) (C := Try.checked) false ⟨#[], #[.agg #[.int .u16 0, .int .u16 0, .int .u16 0, .int .u32 0, .int .u32 0, .int .u8 0, .slice none 0 0, .string ⟨#[]⟩, .string ⟨#[]⟩], .agg #[.int .u16 0, .int .u16 0, .int .u16 0, .int .u32 0, .int .u32 0, .int .u8 0, .slice none 0 0, .string ⟨#[]⟩, .string ⟨#[]⟩], .int .i64 0, .int .i64 0], []⟩ 8 (by kernel_rfl) (by kernel_rfl) (by kernel_rfl) (by kernel_rfl)) ?_
  intro W base args ds gs before hval0 hW hcnd _
  have hval : ∀ (j : Nat) t v, Try.f3.params[j]? = some t → args[j]? = some v → Value.okWide Try.prog W .any base t v := hval0
  have hW' := hW
  obtain ⟨p, q, hA0, hV, rfl, hfz, hnd⟩ := hW
  have hA : DataW.TrodAll enc Try.prog W 0 (fun _ => true) true Try.f3.params.toList args.toList ds p := hA0
  have hA2 := hA
  rw [Try.params3] at hA hval
  obtain ⟨v0, v1, v2, v3, d0, d1, d2, d3, p0, p1, p2, p3, rfl, rfl, rfl, h0, h1, h2, h3⟩ := trodAll_four hA
  obtain ⟨rfl, rfl⟩ := trodVars_none hV
  obtain ⟨d, rfl, hd⟩ := draft_open (hval 0 26 v0 rfl rfl) h0
  obtain ⟨e, rfl, he⟩ := draft_open (hval 1 26 v1 rfl rfl) h1
  obtain ⟨at_, rfl, k2⟩ := val_int Try.underlying3 (hval 2 3 v2 rfl rfl)
  obtain ⟨by_, rfl, _⟩ := val_int Try.underlying3 (hval 3 3 v3 rfl rfl)
  refine (boxTells_any d e at_ by_ W hd he k2).mono fun e' W' ⟨hee, hb⟩ => ?_
  subst hee
  exact ⟨_, rfl, row_true laid1 boxTells_reads rfl Try.underlying4 rfl rfl hW' hA2 (by simp) hb⟩

theorem boxTells_holds : Rows.BoxTellsSaid :=
  OpenClaim.holds_of_wide 3 Try.f3 rfl rfl rfl rfl rfl rfl rfl ⟨rfl, rfl, rfl, rfl, rfl⟩ rfl rfl rfl rfl rfl (by kernel_rfl) Try.func3 (by kernel_rfl)
    (of_decide_eq_true (by kernel_rfl)) (by unfold Func.isWrapper; first | (rw [if_pos (by decide +kernel)]; kernel_rfl) | (rw [if_neg (by decide +kernel)]; exact ⟨rfl, rfl⟩))
    (fun os started H enc _ => boxTells_lifted os started H enc)

end Go.Proofs.Ytdkkfhlijapbeaa
