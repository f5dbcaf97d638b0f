/- make of bytes. -/
import Derived.Test.YtbbkinldfpphdaaGreatDoorLe
import Derived.Laws.MakeOwn
namespace Go.Proofs.YtbbkinldfpphdaaGreatDoor
open Go.RowKit Pl

theorem made_u8 (n : Nat) : madeCells (Value.int .u8 0).cells n = (cellsOf (List.replicate n 0)).toArray := by
  apply Array.ext_getElem?
  intro i
  unfold madeCells
  rcases Nat.lt_or_ge i n with h | h
  · simp [cellsOf, h, Value.cells, Nat.mod_one]
  · simp [cellsOf, h]
theorem make_u8 (n : Nat) (hn : n ≤ 1000000) (w : World) :
    (Instr.makeSlice 24 (.int .i64 n) (.int .i64 n)).run Tryz.prog w = .ok (.slice (some ⟨w.heap.size, 0, none⟩) n n) (w.alloc (.cells (cellsOf (List.replicate n 0)).toArray 5)) := by
  obtain ⟨i0, hi, hz0, hz1, hz2⟩ := info_parts info_u8
  have := run_makeSlice (P := Tryz.prog) (w := w) 24 5 i0 (.int .u8 0) Tryz.underlying24 hi hz0 .i64 .i64 (n : Int) (n : Int) (by omega) (by omega) (by rw [hz1]; simp; omega) (by rw [hz2]; omega) (by omega)
  rw [hz1, Nat.mul_one, Int.toNat_natCast, made_u8] at this
  exact this
end Go.Proofs.YtbbkinldfpphdaaGreatDoor
