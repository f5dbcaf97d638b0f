/- head.Parse walked: bytes as a segment. -/
import Derived.Test.YtbbkinldfpphdaaGreatDoorRt
import Derived.Test.YtbbkinldfpphdaaGreatDoorLay
import Derived.Test.YtbbkinldfpphdaaGreatDoorSg
import Derived.Deep.RegionHeld3
namespace Go.Proofs.YtbbkinldfpphdaaGreatDoor
open Go.RowKit Pl

/-- The number that bytes a to b of a text are. -/
def pf (s : ByteArray) (a b : Nat) : Nat := numL (s.extract a b).data.toList
theorem pf_lt (s : ByteArray) (a b : Nat) : pf s a b < 256 ^ (b - a) := by
  refine Nat.lt_of_lt_of_le (numL_lt _) (Nat.pow_le_pow_right (by omega) ?_)
  have := bytes_len (s.extract a b)
  rw [this, ByteArray.size_extract]; omega
def parseC (s : ByteArray) : List Value :=
  segC 0 (pf s 0 2) (pf s 2 4) (pf s 4 8) (pf s 8 12) (decide (bn s.data.toList 13 / 2 % 2 = 1)) (decide (bn s.data.toList 13 / 16 % 2 = 1)) (decide (bn s.data.toList 13 % 2 = 1)) (decide (bn s.data.toList 13 / 4 % 2 = 1))
    (pf s 14 16) (s.extract 20 (bn s.data.toList 12 / 4)) (s.extract (bn s.data.toList 12 / 4) s.size)
def zeroC : List Value := [.int .i64 0, .int .u16 0, .int .u16 0, .int .u32 0, .int .u32 0, .bool false, .bool false, .bool false, .bool false, .int .u16 0, .string ⟨#[]⟩, .string ⟨#[]⟩]

theorem wp_one {P : Program} {c : Code} {Q : Exit → Act → World → Prop} {a : Act} {w : World} (A : Act) (W : World)
    (h1 : c.wp P (fun e a' w' => e = .normal ∧ a' = A ∧ w' = W) a w) (h2 : Q .normal A W) : c.wp P Q a w :=
  Code.wp_mono (fun e a' w' h => by obtain ⟨rfl, rfl, rfl⟩ := h; exact h2) h1

theorem get_at (s : ByteArray) (a b : Nat) (h : b - a ≤ 4) (w : World) :
    Calls Tryz.prog 27 #[.string (s.extract a b)] w fun e w' => e = .returned (.int .u32 (pf s a b : Nat)) ∧ w = w' :=
  get_any _ w (by rw [ByteArray.size_extract]; omega)

set_option maxHeartbeats 2000000 in
theorem parse_bad (s : ByteArray) (w : World) (hz : s.size ≤ 9223372036854775807) (h : rightL s.data.toList ≠ 0) :
    Calls Tryz.prog 10 #[.string s] w fun e w' => e = .returned (.tuple #[.agg zeroC.toArray, .int .i64 (rightL s.data.toList : Nat)]) ∧ Below w.heap.size w w' := by
  have hr := fun w => right_any s w hz
  obtain ⟨r, er⟩ : ∃ r, rightL s.data.toList = r := ⟨_, rfl⟩
  rw [er] at hr h ⊢
  have h1 : ((r : Int) == 0) = false := by simp; omega
  have h2 : ((r : Int) != 0) = true := by simp; omega
  have HR := Lib.hid hr
  clear hr er
  unfold zeroC
  go_enter Tryz.func10, Tryz.ntmps10
  go_wp2_with (go_at_call 26; refine (HR.out _).mono ?_; rintro e w1 ⟨rfl, hb1⟩; have hA := (At.of_new w 29 #[.int .i64 0, .int .u16 0, .int .u16 0, .int .u32 0, .int .u32 0, .bool false, .bool false, .bool false, .bool false, .int .u16 0, .string ⟨#[]⟩, .string ⟨#[]⟩]).kept hb1; obtain ⟨f, d0, d1, d2, d3, d4, d5, d6, d7, d8, d9, d10, d11⟩ := hA.cells12)
  have hb0 : Below w.heap.size w w1 := ((Below.refl _ w).alloc (Nat.le_refl _) _).trans (hb1.mono (by simp))
  refine chain12 (motive := fun W => bodyPost _ _ _ _ _ W) hA ?_
  intro W2 hA2 hO2
  have hL := seg_loadVar hA2 (by rfl)
  exact bodyPost_ret (v := .tuple #[.agg #[.int .i64 0, .int .u16 0, .int .u16 0, .int .u32 0, .int .u32 0, .bool false, .bool false, .bool false, .bool false, .int .u16 0, .string ⟨#[]⟩, .string ⟨#[]⟩], .int .i64 r]) (by
    simp [results, Tryz.results10, asAddr, hL]) rfl ⟨rfl, below_only hb0 hO2 hb0.size (Nat.le_refl _)⟩

end Go.Proofs.YtbbkinldfpphdaaGreatDoor
