/- A whole variable of a struct, loaded and stored. -/
import Derived.Test.YtbbkinldfpphdaaGreatDoorHp
import Derived.Deep.MidRow
namespace Go.Proofs.YtbbkinldfpphdaaGreatDoor
open Go.RowKit

theorem oneCell_all {xs : List Value} (h : xs.all (·.oneCell') = true) : xs.toArray.all (·.oneCell') = true := by simpa using h
theorem At.range {w : World} {g : Nat} {t : TypeId} {cs : List Value} (h : At w g t cs) : w.rangeAt g 0 cs := fun j v hv => by
  rw [Nat.zero_add, h.cell, hv]
theorem At.there {w : World} {g : Nat} {t : TypeId} {cs : List Value} (h : At w g t cs) {n : Nat} (hn : n ≤ cs.length) : w.there g 0 n := fun j hj => by
  refine ⟨?_, h.frozen _⟩
  rw [h.cell, Nat.zero_add, List.getElem?_eq_getElem (by omega)]; rfl
theorem At.setCells {g : Nat} {t : TypeId} : ∀ (xs pre cs : List Value) (w : World), At w g t (pre ++ cs) → xs.length = cs.length → At (w.setCells g pre.length xs) g t (pre ++ xs) ∧ w.grownBy (w.setCells g pre.length xs) (some g)
  | [], pre, cs, w, h, hl => by
    have : cs = [] := List.length_eq_zero_iff.1 hl.symm
    subst this
    exact ⟨h, only_refl _ _⟩
  | x :: xs, pre, [], w, h, hl => by cases hl
  | x :: xs, pre, c :: cs, w, h, hl => by
    rw [World.setCells]
    have h1 := h.set_ pre.length x
    rw [List.set_append_right _ _ (Nat.le_refl _), Nat.sub_self, List.set_cons_zero] at h1
    have := At.setCells xs (pre ++ [x]) cs (w.setCell ⟨g, pre.length, none⟩ x) (by simpa using h1) (by simpa using hl)
    rw [List.length_append] at this
    refine ⟨by simpa using this.1, only_trans (only_set w g pre.length x) this.2⟩
theorem At.setAll {g : Nat} {t : TypeId} {xs cs : List Value} {w : World} (h : At w g t cs) (hl : xs.length = cs.length) : At (w.setCells g 0 xs) g t xs ∧ w.grownBy (w.setCells g 0 xs) (some g) :=
  At.setCells xs [] cs w h hl

section
variable {P : Program} {T : TypeId} {n : Nat}
theorem row_load {w : World} {g : Nat} {t : TypeId} {cs : List Value} (hi : (P.info? T).map (·.size) = some n) (hr : (P.underlying T).map (·.isRow) = some true) (h : At w g t cs) (hl : cs.length = n) :
    (Instr.loadAt T (.pointer (some ⟨g, 0, none⟩))).run P w = .ok (.agg cs.toArray) w := by
  cases hu : P.underlying T with
  | none => rw [hu] at hr; cases hr
  | some d =>
    rw [hu] at hr
    exact run_loadAt_mid w g 0 T cs d h.range hu (by simpa using hr) (by rw [hi, hl])
theorem row_loadVar {w : World} {g : Nat} {t : TypeId} {cs : List Value} (hi : (P.info? T).map (·.size) = some n) (hr : (P.underlying T).map (·.isRow) = some true) (h : At w g t cs) (hl : cs.length = n) :
    (loadVar T ⟨g, 0, none⟩).run P w = .ok (.agg cs.toArray) w := by
  cases hu : P.underlying T with
  | none => rw [hu] at hr; cases hr
  | some d =>
    rw [hu] at hr
    exact run_loadVar_mid w g 0 T cs d h.range hu (by simpa using hr) (by rw [hi, hl])
theorem row_store {w : World} {g : Nat} {t : TypeId} {cs : List Value} (xs : List Value) (hi : (P.info? T).map (·.size) = some n) (h : At w g t cs) (hl : cs.length = n) (hx : xs.length = n) (h1 : xs.all (·.oneCell') = true) :
    ∃ w', (Instr.storeAt T (.pointer (some ⟨g, 0, none⟩)) (.agg xs.toArray)).run P w = .ok () w' ∧ At w' g t xs ∧ w.grownBy w' (some g) :=
  ⟨w.setCells g 0 xs, run_storeAt_mid w g 0 T xs.toArray (h.there (by simp; omega)) (by rw [hi]; simp [hx]) (oneCell_all h1), h.setAll (by omega)⟩
end

theorem seg_info : (Tryz.prog.info? 29).map (·.size) = some 12 := by kernel_rfl
theorem seg_row : (Tryz.prog.underlying 29).map (·.isRow) = some true := by kernel_rfl
theorem seg_load {w : World} {g : Nat} {t : TypeId} {cs : List Value} (h : At w g t cs) (hl : cs.length = 12) : (Instr.loadAt 29 (.pointer (some ⟨g, 0, none⟩))).run Tryz.prog w = .ok (.agg cs.toArray) w :=
  row_load seg_info seg_row h hl
theorem seg_loadVar {w : World} {g : Nat} {t : TypeId} {cs : List Value} (h : At w g t cs) (hl : cs.length = 12) : (loadVar 29 ⟨g, 0, none⟩).run Tryz.prog w = .ok (.agg cs.toArray) w :=
  row_loadVar seg_info seg_row h hl
theorem seg_store {w : World} {g : Nat} {t : TypeId} {cs : List Value} (h : At w g t cs) (hl : cs.length = 12) (xs : List Value) (hx : xs.length = 12) (h1 : xs.all (·.oneCell') = true) :
    ∃ w', (Instr.storeAt 29 (.pointer (some ⟨g, 0, none⟩)) (.agg xs.toArray)).run Tryz.prog w = .ok () w' ∧ At w' g t xs ∧ w.grownBy w' (some g) :=
  row_store xs seg_info h hl hx h1
theorem At.cells12 {w : World} {g : Nat} {t : TypeId} {a0 a1 a2 a3 a4 a5 a6 a7 a8 a9 a10 a11 : Value} (h : At w g t [a0, a1, a2, a3, a4, a5, a6, a7, a8, a9, a10, a11]) :
    (∀ i, w.frozen? ⟨g, i, none⟩ = false) ∧ w.cell? ⟨g, 0, none⟩ = some a0 ∧ w.cell? ⟨g, 1, none⟩ = some a1 ∧ w.cell? ⟨g, 2, none⟩ = some a2 ∧ w.cell? ⟨g, 3, none⟩ = some a3 ∧ w.cell? ⟨g, 4, none⟩ = some a4 ∧ w.cell? ⟨g, 5, none⟩ = some a5 ∧ w.cell? ⟨g, 6, none⟩ = some a6 ∧ w.cell? ⟨g, 7, none⟩ = some a7 ∧ w.cell? ⟨g, 8, none⟩ = some a8 ∧ w.cell? ⟨g, 9, none⟩ = some a9 ∧ w.cell? ⟨g, 10, none⟩ = some a10 ∧ w.cell? ⟨g, 11, none⟩ = some a11 :=
  ⟨h.frozen, h.cell 0, h.cell 1, h.cell 2, h.cell 3, h.cell 4, h.cell 5, h.cell 6, h.cell 7, h.cell 8, h.cell 9, h.cell 10, h.cell 11⟩
/-- Twelve cells set, one behind the other. -/
theorem chain12 {w : World} {g : Nat} {t : TypeId} {a0 a1 a2 a3 a4 a5 a6 a7 a8 a9 a10 a11 b0 b1 b2 b3 b4 b5 b6 b7 b8 b9 b10 b11 : Value} {motive : World → Prop} (hA : At w g t [a0, a1, a2, a3, a4, a5, a6, a7, a8, a9, a10, a11])
    (h : ∀ W, At W g t [b0, b1, b2, b3, b4, b5, b6, b7, b8, b9, b10, b11] → w.grownBy W (some g) → motive W) : motive ((((((((((((w.setCell ⟨g, 0, none⟩ b0).setCell ⟨g, 1, none⟩ b1).setCell ⟨g, 2, none⟩ b2).setCell ⟨g, 3, none⟩ b3).setCell ⟨g, 4, none⟩ b4).setCell ⟨g, 5, none⟩ b5).setCell ⟨g, 6, none⟩ b6).setCell ⟨g, 7, none⟩ b7).setCell ⟨g, 8, none⟩ b8).setCell ⟨g, 9, none⟩ b9).setCell ⟨g, 10, none⟩ b10).setCell ⟨g, 11, none⟩ b11) :=
  h _ ((((((((((((hA.set_ 0 b0).set_ 1 b1).set_ 2 b2).set_ 3 b3).set_ 4 b4).set_ 5 b5).set_ 6 b6).set_ 7 b7).set_ 8 b8).set_ 9 b9).set_ 10 b10).set_ 11 b11) (only_trans (only_trans (only_trans (only_trans (only_trans (only_trans (only_trans (only_trans (only_trans (only_trans (only_trans (only_trans (only_refl w g) (only_set _ g 0 b0)) (only_set _ g 1 b1)) (only_set _ g 2 b2)) (only_set _ g 3 b3)) (only_set _ g 4 b4)) (only_set _ g 5 b5)) (only_set _ g 6 b6)) (only_set _ g 7 b7)) (only_set _ g 8 b8)) (only_set _ g 9 b9)) (only_set _ g 10 b10)) (only_set _ g 11 b11))
end Go.Proofs.YtbbkinldfpphdaaGreatDoor
