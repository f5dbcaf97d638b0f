/- Proved here: for every text, draft, two bytes and place, plaitlaw30.BoxOdd returns true and its arguments read as they did before. No condition. -/
import Derived.Test.YtdkkfhlijapbeaaOd
import Derived.Test.YtdkkfhlijapbeaaWo
namespace Go.Proofs.Ytdkkfhlijapbeaa
open Go.ChangeShapes Go.WideShapes Go.ChangeAt Go.RowKit

theorem pair_cells : Try.prog.cellTypes Try.prog.depth 38 = some [5, 5] := by kernel_rfl
theorem pair_open {w : World} {r : Reach} {b : Nat} {v : Value} (h : Value.okWide Try.prog w r b 38 v) :
    ∃ n0 n1 : Nat, v = .agg #[.int .u8 n0, .int .u8 n1] ∧ n0 < 256 ∧ n1 < 256 := by
  obtain ⟨cs, rfl, hsz, ts, hts, _, hc⟩ : ∃ cs, v = .agg cs ∧ cs.size = Try.prog.cellsOf 38 ∧ Row.okWide Try.prog w r b 38 cs := by
    unfold Value.okWide at h
    rw [Try.underlying38] at h
    exact h
  rw [pair_cells] at hts
  obtain rfl := Option.some.inj hts
  have hC : Try.prog.cellsOf 38 = 2 := by kernel_rfl
  rw [hC] at hsz
  obtain ⟨l⟩ := cs
  match l, hsz with
  | [c0, c1], _ =>
    obtain ⟨_, e, h0⟩ := hc 0 c0 rfl; obtain rfl := Option.some.inj e
    obtain ⟨_, e, h1⟩ := hc 1 c1 rfl; obtain rfl := Option.some.inj e
    obtain ⟨_, rfl, k0⟩ := cell_int Try.underlying5 h0
    obtain ⟨_, rfl, k1⟩ := cell_int Try.underlying5 h1
    obtain ⟨n0, rfl, j0⟩ := has_u8 k0
    obtain ⟨n1, rfl, j1⟩ := has_u8 k1
    exact ⟨n0, n1, rfl, j0, j1⟩

theorem boxOdd_reads : ∀ t ∈ Try.f4.params.toList, Try.prog.readableRec t = true ∧ t < Try.prog.types.size := by
  rw [Try.params4]
  intro t ht
  simp at ht
  rcases ht with rfl | rfl | rfl | rfl <;> exact ⟨by kernel_rfl, of_decide_eq_true (by kernel_rfl)⟩

set_option maxRecDepth 100000 in
theorem boxOdd_lifted (os : Os) (started : os.Started) (H : Type) (enc : TypeId × Value → H) :
    ReturnsInHanded {} Try.checked os 4 .any (Rows.boxOddSpec.pre6 enc Try.prog Try.f4 Rows.boxOddRow.domain false) (Rows.boxOddSpec.post enc Try.prog Try.f4 false true false false) := by
  refine returnsInHanded_of_change (C := Try.checked) own1 started (by kernel_rfl) Try.func4
    (ChangeSpec.witness6 (enc := enc) (C := Try.checked) false ⟨#[], #[.string ⟨#[]⟩, .agg #[.int .u16 0, .int .u16 0, .int .u16 0, .int .u32 0, .int .u32 0, .int .u8 0, .slice none 0 0, .string ⟨#[]⟩, .string ⟨#[]⟩], .agg #[.int .u8 0, .int .u8 0], .int .i64 0], []⟩ 8 (by kernel_rfl) (by kernel_rfl) (by kernel_rfl) (by kernel_rfl)) ?_
  intro W base args ds gs before hval0 hW hcnd _
  have hval : ∀ (j : Nat) t v, Try.f4.params[j]? = some t → args[j]? = some v → Value.okWide Try.prog W .any base t v := hval0
  have hW' := hW
  obtain ⟨p, q, hA0, hV, rfl, hfz, hnd⟩ := hW
  have hA : DataW.TrodAll enc Try.prog W 0 (fun _ => true) true Try.f4.params.toList args.toList ds p := hA0
  have hA2 := hA
  rw [Try.params4] at hA hval
  obtain ⟨v0, v1, v2, v3, d0, d1, d2, d3, p0, p1, p2, p3, rfl, rfl, rfl, h0, h1, h2, h3⟩ := trodAll_four hA
  obtain ⟨rfl, rfl⟩ := trodVars_none hV
  obtain ⟨s, rfl, hs⟩ := val_string Try.underlying9 (hval 0 9 v0 rfl rfl)
  obtain ⟨d, rfl, hd⟩ := draft_open (hval 1 26 v1 rfl rfl) h1
  obtain ⟨n0, n1, rfl, j0, j1⟩ := pair_open (hval 2 38 v2 rfl rfl)
  obtain ⟨at_, rfl, _⟩ := val_int Try.underlying3 (hval 3 3 v3 rfl rfl)
  refine (boxOdd_any s d n0 n1 at_ W hd hs j0 j1).mono fun e W' ⟨he, hb⟩ => ?_
  subst he
  exact ⟨_, rfl, row_true laid1 boxOdd_reads rfl Try.underlying4 rfl rfl hW' hA2 (by simp) hb⟩

theorem boxOdd_holds : Rows.BoxOddSaid :=
  OpenClaim.holds_of_wide 4 Try.f4 rfl rfl rfl rfl rfl rfl rfl ⟨rfl, rfl, rfl, rfl, rfl⟩ rfl rfl rfl rfl rfl (by kernel_rfl) Try.func4 (by kernel_rfl)
    (of_decide_eq_true (by kernel_rfl)) (by unfold Func.isWrapper; first | (rw [if_pos (by decide +kernel)]; kernel_rfl) | (rw [if_neg (by decide +kernel)]; exact ⟨rfl, rfl⟩))
    (fun os started H enc _ => boxOdd_lifted os started H enc)

end Go.Proofs.Ytdkkfhlijapbeaa
