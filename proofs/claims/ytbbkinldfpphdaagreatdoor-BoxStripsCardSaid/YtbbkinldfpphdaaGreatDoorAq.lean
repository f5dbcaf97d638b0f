/- The items that stand in an area can be laid again, any of them left out. -/
import Derived.Test.YtbbkinldfpphdaaGreatDoorAp
namespace Go.Proofs.YtbbkinldfpphdaaGreatDoor
open Go.RowKit Pl

theorem fnd_may (s : ByteArray) : ∀ (f p : Nat), s.size ≤ 40 → (∀ x ∈ fnd s f p, badF x = false) → (∀ x ∈ fnd s f p, mayI (itF x)) ∧ (itemsL ((fnd s f p).map itF)).length ≤ s.size - p := by
  intro f
  induction f with
  | zero => intro p _ _; exact ⟨fun x hx => by simp [fnd] at hx, by simp [fnd, itemsL]⟩
  | succ f ih =>
    intro p hs h
    have hb : bn s.data.toList p < 256 := by unfold bn; exact UInt8.toNat_lt _
    rw [fnd] at h ⊢
    by_cases c0 : s.size ≤ p
    · rw [if_pos c0]; exact ⟨fun x hx => by simp at hx, by simp [itemsL]⟩
    rw [if_neg c0] at h ⊢
    by_cases c1 : bn s.data.toList p = 0
    · rw [if_pos c1]; exact ⟨fun x hx => by simp at hx, by simp [itemsL]⟩
    rw [if_neg c1] at h ⊢
    by_cases c2 : bn s.data.toList p = 1
    · rw [if_pos c2] at h ⊢
      have := ih (p + 1) hs h
      exact ⟨this.1, by omega⟩
    rw [if_neg c2] at h ⊢
    have nob : ∀ k : Nat, k ≠ 0 → badF ((bn s.data.toList p : Int), k, (⟨#[]⟩ : ByteArray)) = true := fun k hk => by
      show (k != 0 && true) = true
      simp [hk]
    by_cases c3 : p + 1 = s.size
    · rw [if_pos c3] at h; have := h _ (List.mem_singleton.2 rfl); rw [nob 4 (by decide)] at this; cases this
    rw [if_neg c3] at h ⊢
    by_cases c4 : bn s.data.toList (p + 1) < 2
    · rw [if_pos c4] at h; have := h _ (List.mem_singleton.2 rfl); rw [nob 5 (by decide)] at this; cases this
    rw [if_neg c4] at h ⊢
    by_cases c5 : s.size - p < bn s.data.toList (p + 1)
    · rw [if_pos c5] at h; have := h _ (List.mem_singleton.2 rfl); rw [nob 4 (by decide)] at this; cases this
    rw [if_neg c5] at h ⊢
    have hr := ih (p + bn s.data.toList (p + 1)) hs (fun x hx => h x (List.mem_cons_of_mem _ hx))
    have hz : (s.extract (p + 2) (p + bn s.data.toList (p + 1))).size = bn s.data.toList (p + 1) - 2 := by rw [ByteArray.size_extract]; omega
    refine ⟨fun x hx => ?_, ?_⟩
    · rcases List.mem_cons.1 hx with rfl | hx
      · refine ⟨?_, ?_, ?_⟩
        · show (1 : Int) < (bn s.data.toList p : Int); omega
        · show (bn s.data.toList p : Int) ≤ 255; omega
        · show (s.extract (p + 2) (p + bn s.data.toList (p + 1))).size ≤ 253; have hb2 : bn s.data.toList (p + 1) < 256 := (by unfold bn; exact UInt8.toNat_lt _); omega
      · exact hr.1 x hx
    · rw [List.map_cons]
      show (itemL _ ++ itemsL _).length ≤ _
      rw [List.length_append, itemL_length]
      show 2 + (s.extract (p + 2) (p + bn s.data.toList (p + 1))).size + _ ≤ _
      omega
theorem walk_may (s : ByteArray) : (∀ x ∈ (walkR s).1, mayI x) ∧ (itemsL (walkR s).1).length ≤ 40 := by
  unfold walkR
  by_cases c0 : 40 < s.size
  · rw [if_pos c0]; exact ⟨fun x hx => by simp at hx, by simp [itemsL]⟩
  rw [if_neg c0]
  by_cases c1 : s.size % 4 ≠ 0
  · rw [if_pos c1]; exact ⟨fun x hx => by simp at hx, by simp [itemsL]⟩
  rw [if_neg c1]
  cases hf : (fds s 0).find? badF with
  | some x => exact ⟨fun x hx => by simp at hx, by simp [itemsL]⟩
  | none =>
    have h := fnd_may s s.size 0 (by omega) (fun x hx => by have := List.find?_eq_none.1 hf x hx; simpa using this)
    refine ⟨fun x hx => ?_, ?_⟩
    · obtain ⟨y, hy, rfl⟩ := List.mem_map.1 hx
      exact h.1 y hy
    · have := h.2; exact Nat.le_trans this (by omega)
/-- What is kept when the priority item goes. -/
def keeps (xs : List It) : List It := xs.filter fun x => x.1 != 30
theorem keeps_length (xs : List It) : (itemsL (keeps xs)).length ≤ (itemsL xs).length := by
  induction xs with
  | nil => exact Nat.le_refl _
  | cons x xs ih =>
    unfold keeps at *
    rw [List.filter_cons]
    show _ ≤ (itemL x ++ itemsL xs).length
    rw [List.length_append]
    split
    · show (itemL x ++ itemsL _).length ≤ _
      rw [List.length_append]; omega
    · omega
theorem lay_keeps (s : ByteArray) : layI (keeps (walkR s).1) = (⟨(padL (itemsL (keeps (walkR s).1))).toArray⟩, 0) := by
  have h := walk_may s
  unfold layI
  have h1 : ∀ x ∈ keeps (walkR s).1, mayI x := fun x hx => h.1 x (List.mem_filter.1 hx).1
  rw [if_pos h1, if_neg (by have := keeps_length (walkR s).1; omega)]
/-- The area without its priority item. -/
def bareB (s : ByteArray) : ByteArray := ⟨(padL (itemsL (keeps (walkR s).1))).toArray⟩
theorem keeps_snoc (xs : List It) (x : It) : keeps (xs ++ [x]) = keeps xs ++ (if x.1 = 30 then [] else [x]) := by
  unfold keeps
  rw [List.filter_append]
  by_cases h : x.1 = 30
  · simp [h]
  · simp [h]
end Go.Proofs.YtbbkinldfpphdaaGreatDoor
