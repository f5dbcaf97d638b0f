/- A row of items that the call made. -/
import Derived.Test.YtbbkinldfpphdaaGreatDoorA1
import Derived.Laws.AppendOwn
import Derived.OwnWalk
import Derived.WideLaws
namespace Go.Proofs.YtbbkinldfpphdaaGreatDoor
open Go.RowKit Pl

theorem add_at (g j : Nat) : (⟨g, 0, none⟩ : Addr).add j = ⟨g, j, none⟩ := by cases j <;> simp [Addr.add]
theorem info_item : (Tryz.prog.info? 36).map (fun i => (i.zero, i.size, i.bytes)) = some (some (.agg #[.int .i64 0, .string ⟨#[]⟩]), 2, 24) := by kernel_rfl
def cellsIt (l : List It) : List Value := l.flatMap fun x => [.int .i64 x.1, .string x.2]
theorem cellsIt_at : ∀ (l : List It) (i : Nat) (x : It), l[i]? = some x → (cellsIt l)[i * 2]? = some (.int .i64 x.1) ∧ (cellsIt l)[i * 2 + 1]? = some (.string x.2) := by
  intro l
  induction l with
  | nil => intro i x h; simp at h
  | cons y l ih =>
    intro i x h
    cases i with
    | zero => simp at h; subst h; exact ⟨rfl, rfl⟩
    | succ i =>
      have := ih i x (by simpa using h)
      rw [show (i + 1) * 2 = i * 2 + 1 + 1 by omega]
      simpa [cellsIt] using this
theorem items_own {base : Nat} {W : World} {v : Value} {l : List It} (h : W.ownsRow base 36 2 v l.length (cellsIt l)) : Items W v l := by
  rcases h.2 with ⟨rfl, hn⟩ | ⟨g, cap, cur, rfl, _⟩
  · exact .inl ⟨List.length_eq_zero_iff.1 hn, rfl⟩
  · refine .inr ⟨g, cap, rfl, fun i x hx => ?_⟩
    obtain ⟨k1, k2⟩ := cellsIt_at l i x hx
    have c1 := h.cells (g := g) rfl _ _ k1
    have c2 := h.cells (g := g) rfl _ _ k2
    rw [add_at] at c1 c2
    exact ⟨c1, c2⟩
end Go.Proofs.YtbbkinldfpphdaaGreatDoor
