/- What stripping does, in plain Lean. -/
import Derived.Test.YtbbkinldfpphdaaGreatDoorA4
import Derived.Test.YtbbkinldfpphdaaGreatDoorSd
namespace Go.Proofs.YtbbkinldfpphdaaGreatDoor
open Go.RowKit Pl

theorem drop_bn {l r : List UInt8} {c : UInt8} {p : Nat} (h : l.drop p = c :: r) : bn l p = c.toNat ∧ p < l.length ∧ l.drop (p + 1) = r := by
  have hp : p < l.length := by
    rcases Nat.lt_or_ge p l.length with h1 | h1
    · exact h1
    · rw [List.drop_of_length_le h1] at h; cases h
  have h2 := List.drop_eq_getElem_cons hp
  rw [h] at h2
  obtain ⟨e1, e2⟩ := List.cons.inj h2
  refine ⟨?_, hp, e2.symm⟩
  unfold bn
  rw [List.getD_eq_getElem?_getD, List.getElem?_eq_getElem hp, e1]; rfl
theorem fds_items (s : ByteArray) (z : Nat) : ∀ (ys : List It) (p : Nat), (∀ y ∈ ys, mayI y) → s.data.toList.drop p = itemsL ys ++ List.replicate z 0 → fds s p = ys.map fun y => (y.1, 0, y.2)
  | [], p, _, h => by
    cases z with
    | zero =>
      have : s.data.toList.length ≤ p := by
        have := congrArg List.length h
        simp [itemsL] at this; simp; omega
      exact fds_end s p (by rw [← bytes_len]; exact this)
    | succ z =>
      rw [itemsL, List.flatMap_nil, List.nil_append, List.replicate_succ] at h
      obtain ⟨h1, h2, _⟩ := drop_bn h
      rw [fds_step s p (by rw [← bytes_len]; exact h2), if_pos (by rw [h1]; rfl)]; rfl
  | y :: ys, p, hm, h => by
    obtain ⟨kind, body⟩ := y
    obtain ⟨q1, q2, q3⟩ := hm _ (List.mem_cons_self ..)
    simp only at q1 q2 q3
    have hL : itemsL ((kind, body) :: ys) = UInt8.ofNat kind.toNat :: UInt8.ofNat (2 + body.size) :: (body.data.toList ++ itemsL ys) := rfl
    rw [hL, List.cons_append, List.cons_append] at h
    obtain ⟨h1, h2, h3⟩ := drop_bn h
    obtain ⟨h4, h5, h6⟩ := drop_bn h3
    rw [UInt8.toNat_ofNat', Nat.mod_eq_of_lt (by omega)] at h1 h4
    have hz : s.data.toList.length = s.size := bytes_len s
    have hlen : s.size - (p + 2) = body.size + (itemsL ys ++ List.replicate z 0).length := by
      have := congrArg List.length h6
      rw [List.length_drop, hz, List.append_assoc, List.length_append, bytes_len] at this
      omega
    have hp2 : p + 2 ≤ s.size := by omega
    have h7 : s.data.toList.drop (p + (2 + body.size)) = itemsL ys ++ List.replicate z 0 := by
      have : s.data.toList.drop (p + (2 + body.size)) = (s.data.toList.drop (p + 1 + 1)).drop body.size := by rw [List.drop_drop]; congr 1; omega
      rw [this, h6, List.append_assoc, List.drop_left' (bytes_len body)]
    have hb : s.extract (p + 2) (p + (2 + body.size)) = body := by
      apply ba_ext
      rw [cut_data, cutL, List.drop_take]
      have : s.data.toList.drop (p + 2) = body.data.toList ++ (itemsL ys ++ List.replicate z 0) := by rw [← List.append_assoc]; exact h6
      rw [this, show p + (2 + body.size) - (p + 2) = body.size by omega, List.take_left' (bytes_len body)]
    rw [fds_step s p (by omega), h1, h4, if_neg (by omega), if_neg (by omega), if_neg (by omega), if_neg (by omega), if_neg (by omega), hb,
      fds_items s z ys (p + (2 + body.size)) (fun y hy => hm y (List.mem_cons_of_mem _ hy)) h7]
    rw [List.map_cons]
    congr 2
    omega
/-- The area of items. -/
def areaOf (xs : List It) : ByteArray := ⟨(padL (itemsL xs)).toArray⟩
theorem walk_area (xs : List It) (hm : ∀ x ∈ xs, mayI x) (hl : (itemsL xs).length ≤ 40) : walkR (areaOf xs) = (xs, 0) := by
  obtain ⟨h1, h2⟩ := padL_size (itemsL xs) hl
  have h1 : (areaOf xs).size ≤ 40 := h1
  have h2 : (areaOf xs).size % 4 = 0 := h2
  have hf : fds (areaOf xs) 0 = xs.map fun y => (y.1, 0, y.2) := fds_items _ (padN (itemsL xs).length) xs 0 hm rfl
  unfold walkR
  rw [if_neg (by omega), if_neg (by omega), hf]
  have hn : (xs.map fun y => ((y.1, 0, y.2) : Fd)).find? badF = none := by
    refine List.find?_eq_none.2 fun y hy => ?_
    obtain ⟨x, _, rfl⟩ := List.mem_map.1 hy
    show ¬ (false && _) = true
    simp
  rw [hn]
  have : (xs.map fun y => ((y.1, 0, y.2) : Fd)).map itF = xs := by rw [List.map_map]; exact List.map_id xs
  simp only [this]
theorem bare_area (xs : List It) (hm : ∀ x ∈ xs, mayI x) (hl : (itemsL xs).length ≤ 40) : bareB (areaOf xs) = areaOf (keeps xs) := by
  unfold bareB
  rw [walk_area xs hm hl]
  rfl
theorem keeps_may {xs : List It} (hm : ∀ x ∈ xs, mayI x) : ∀ x ∈ keeps xs, mayI x := fun x hx => hm x (List.mem_filter.1 hx).1
theorem keeps_not {xs : List It} : ∀ x ∈ keeps xs, ¬ x.1 = 30 := fun x hx => by
  have := (List.mem_filter.1 hx).2
  simpa using this
theorem keeps_keeps (xs : List It) : keeps (keeps xs) = keeps xs := by unfold keeps; rw [List.filter_filter]; simp
theorem keeps_append (xs ys : List It) : keeps (xs ++ ys) = keeps xs ++ keeps ys := by unfold keeps; rw [List.filter_append]
/-- An option of ours among the others. -/
def withOurs (l : List It) (k : Nat) : List It := l.take k ++ [((30 : Int), (⟨#[81]⟩ : ByteArray))] ++ l.drop k
theorem keeps_with (l : List It) (k : Nat) : keeps (withOurs l k) = keeps l := by
  unfold withOurs
  rw [keeps_append, keeps_out, ← keeps_append, List.take_append_drop]
theorem with_may {l : List It} (h : ∀ x ∈ l, mayI x) (k : Nat) : ∀ x ∈ withOurs l k, mayI x := by
  intro x hx
  unfold withOurs at hx
  rcases List.mem_append.1 hx with hx | hx
  · rcases List.mem_append.1 hx with hx | hx
    · exact h x (List.mem_of_mem_take hx)
    · rw [List.mem_singleton.1 hx]; exact ⟨by decide, by decide, by decide⟩
  · exact h x (List.mem_of_mem_drop hx)
theorem keeps_at (l : List It) (c : Nat) (x : It) (h : l[c]? = some x) (hx : ¬ x.1 = 30) : (keeps l)[(keeps (l.take c)).length]? = some x ∧ (keeps (l.take (c + 1))).length = (keeps (l.take c)).length + 1 := by
  have hc : c < l.length := (List.getElem?_eq_some_iff.1 h).1
  have e1 : l.take (c + 1) = l.take c ++ [x] := by rw [List.take_add_one, h]; rfl
  have e2 : keeps (l.take (c + 1)) = keeps (l.take c) ++ [x] := by rw [e1, keeps_snoc, if_neg hx]
  have e3 : keeps l = keeps (l.take c) ++ ([x] ++ keeps (l.drop (c + 1))) := by
    have : l = l.take (c + 1) ++ l.drop (c + 1) := (List.take_append_drop _ _).symm
    rw [← List.append_assoc, ← e2, ← keeps_append, List.take_append_drop]
  refine ⟨?_, by rw [e2, List.length_append]; rfl⟩
  rw [e3, List.getElem?_append_right (Nat.le_refl _), Nat.sub_self]; rfl
theorem keeps_skip (l : List It) (c : Nat) (x : It) (h : l[c]? = some x) (hx : x.1 = 30) : (keeps (l.take (c + 1))).length = (keeps (l.take c)).length := by
  have e1 : l.take (c + 1) = l.take c ++ [x] := by rw [List.take_add_one, h]; rfl
  rw [e1, keeps_snoc, if_pos hx, List.append_nil]
end Go.Proofs.YtbbkinldfpphdaaGreatDoor
