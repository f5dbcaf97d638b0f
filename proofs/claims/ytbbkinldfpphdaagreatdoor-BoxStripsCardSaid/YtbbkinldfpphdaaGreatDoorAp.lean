/- What stands in an area, as a list. -/
import Derived.Test.YtbbkinldfpphdaaGreatDoorA1
namespace Go.Proofs.YtbbkinldfpphdaaGreatDoor
open Go.RowKit Pl

/-- What stands at a place: a kind, what is wrong, a body. -/
abbrev Fd := Int × Nat × ByteArray
def fnd (s : ByteArray) : Nat → Nat → List Fd
  | 0, _ => []
  | f + 1, p =>
    if s.size ≤ p then [] else if bn s.data.toList p = 0 then [] else if bn s.data.toList p = 1 then fnd s f (p + 1) else
    if p + 1 = s.size then [((bn s.data.toList p : Int), 4, ⟨#[]⟩)] else if bn s.data.toList (p + 1) < 2 then [((bn s.data.toList p : Int), 5, ⟨#[]⟩)] else
    if s.size - p < bn s.data.toList (p + 1) then [((bn s.data.toList p : Int), 4, ⟨#[]⟩)] else
      ((bn s.data.toList p : Int), 0, s.extract (p + 2) (p + bn s.data.toList (p + 1))) :: fnd s f (p + bn s.data.toList (p + 1))
theorem fnd_end (s : ByteArray) (f p : Nat) (h : s.size ≤ p) : fnd s f p = [] := by
  cases f with
  | zero => rfl
  | succ f => rw [fnd, if_pos h]
theorem fnd_fuel (s : ByteArray) : ∀ (f g p : Nat), s.size - p ≤ f → s.size - p ≤ g → fnd s f p = fnd s g p := by
  intro f
  induction f with
  | zero => intro g p h _; rw [fnd_end _ _ _ (by omega), fnd_end _ _ _ (by omega)]
  | succ f ih =>
    intro g p h1 h2
    cases g with
    | zero => rw [fnd_end _ _ _ (by omega), fnd_end _ _ _ (by omega)]
    | succ g =>
      rw [fnd, fnd]
      by_cases c0 : s.size ≤ p
      · rw [if_pos c0, if_pos c0]
      rw [if_neg c0, if_neg c0]
      by_cases c3 : bn s.data.toList (p + 1) < 2
      · rw [if_pos c3, if_pos c3, ih g (p + 1) (by omega) (by omega)]
      · rw [ih g (p + 1) (by omega) (by omega), ih g (p + bn s.data.toList (p + 1)) (by omega) (by omega)]
/-- All that stands from a place on. -/
def fds (s : ByteArray) (p : Nat) : List Fd := fnd s s.size p
theorem fds_step (s : ByteArray) (p : Nat) (h : p < s.size) : fds s p =
    if bn s.data.toList p = 0 then [] else if bn s.data.toList p = 1 then fds s (p + 1) else
    if p + 1 = s.size then [((bn s.data.toList p : Int), 4, ⟨#[]⟩)] else if bn s.data.toList (p + 1) < 2 then [((bn s.data.toList p : Int), 5, ⟨#[]⟩)] else
    if s.size - p < bn s.data.toList (p + 1) then [((bn s.data.toList p : Int), 4, ⟨#[]⟩)] else
      ((bn s.data.toList p : Int), 0, s.extract (p + 2) (p + bn s.data.toList (p + 1))) :: fds s (p + bn s.data.toList (p + 1)) := by
  unfold fds
  obtain ⟨k, hk⟩ : ∃ k, s.size = k + 1 := ⟨s.size - 1, by omega⟩
  have e : fnd s s.size p = fnd s (k + 1) p := by rw [hk]
  rw [e, fnd, if_neg (by omega)]
  by_cases c3 : bn s.data.toList (p + 1) < 2
  · rw [if_pos c3, if_pos c3, fnd_fuel s k s.size (p + 1) (by omega) (by omega)]
  · rw [fnd_fuel s k s.size (p + 1) (by omega) (by omega), fnd_fuel s k s.size (p + bn s.data.toList (p + 1)) (by omega) (by omega)]
theorem fds_end (s : ByteArray) (p : Nat) (h : s.size ≤ p) : fds s p = [] := fnd_end s _ p h
def badF (x : Fd) : Bool := x.2.1 != 0 && x.2.2.data.toList.isEmpty
def itF (x : Fd) : It := (x.1, x.2.2)
/-- The items of an area, or what is wrong. -/
def walkR (s : ByteArray) : List It × Nat :=
  if 40 < s.size then ([], 6) else if s.size % 4 ≠ 0 then ([], 5) else
    match (fds s 0).find? badF with
    | some x => ([], x.2.1)
    | none => ((fds s 0).map itF, 0)
theorem fnd_length (s : ByteArray) : ∀ (f p : Nat), (fnd s f p).length ≤ f
  | 0, _ => Nat.le_refl _
  | f + 1, p => by
    have h1 := fnd_length s f (p + 1)
    have h2 := fnd_length s f (p + bn s.data.toList (p + 1))
    rw [fnd]
    repeat' split
    all_goals simp
    all_goals omega
theorem fds_length (s : ByteArray) : (fds s 0).length ≤ s.size := fnd_length s _ _
theorem walkR_length (s : ByteArray) : (walkR s).1.length ≤ 40 := by
  unfold walkR
  split
  · simp
  · split
    · simp
    · split
      · simp
      · have := fds_length s
        simp; omega
theorem find_prefix {l pre : List Fd} {x : Fd} (h : (pre ++ [x]) <+: l) (hp : ∀ y ∈ pre, badF y = false) (hx : badF x = true) : l.find? badF = some x := by
  obtain ⟨r, rfl⟩ := h
  rw [List.append_assoc, List.find?_append, List.find?_eq_none.2 (fun y hy => by rw [hp y hy]; simp)]
  simp [hx]
end Go.Proofs.YtbbkinldfpphdaaGreatDoor
