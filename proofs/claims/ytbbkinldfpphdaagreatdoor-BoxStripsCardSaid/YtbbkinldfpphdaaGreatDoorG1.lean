/- The laws' helpers of plaitlaw30: is and works. -/
import Derived.Test.YtbbkinldfpphdaaGreatDoorA4
namespace Go.Proofs.YtbbkinldfpphdaaGreatDoor
open Go.RowKit Pl Go.Shelf
attribute [local go_sem ↓] Go.wp_at_zero Go.wp_at_succ

set_option maxRecDepth 20000 in
set_option maxHeartbeats 1000000 in
theorem is_yes (s : ByteArray) (y : Sg) (w : World) (hz : s.size ≤ 9223372036854775807) (h : wrong s = 0) (hr : readS s = y) :
    Calls Tryz.prog 15 #[.string s, y.v] w fun e w' => e = .returned (.bool true) ∧ Below w.heap.size w w' := by
  have HP := Lib.hid (parse_ok s hz h)
  rw [hr] at HP
  obtain ⟨src, dst, seq, ack, syn, ackOn, fin, rst, win, area, data⟩ := y
  unfold ParseTo at HP
  unfold Sg.v at HP ⊢
  clear hr h hz
  go_enter Tryz.func15, Tryz.ntmps15
  go_wp2_with fail
  refine (HP.out _).mono ?_
  rintro e w1 ⟨rfl, hb⟩
  have hX : At w1 w.heap.size 29 [.int .i64 0, .int .u16 src, .int .u16 dst, .int .u32 seq, .int .u32 ack, .bool syn, .bool ackOn, .bool fin, .bool rst, .int .u16 win, .string area, .string data] := (At.of_new w _ _).kept hb
  obtain ⟨f, d0, d1, d2, d3, d4, d5, d6, d7, d8, d9, d10, d11⟩ := hX.cells12
  have hl := hX.lt
  have HB := Lib.hid (allocThen (Below.refl _ _) hb)
  clear hX hb HP
  go_wp2_with fail
  go_ret
  exact ⟨rfl, HB.out.alloc HB.out.size _⟩
/-- The segment that works lays. -/
def wX : Sg := ⟨0, 0, 10, 0, false, false, false, false, 0, ⟨#[30, 3, 81, 1]⟩, ⟨#[97, 98, 99, 100]⟩⟩
def wBare : Sg := { wX with area := ⟨#[]⟩ }
def wOne : Sg := { wX with data := ⟨#[97]⟩ }
def wTwo : Sg := { wX with data := ⟨#[98, 99, 100]⟩, seq := 11 }
def wEd : Sg := { wX with data := ⟨#[97, 98, 97, 100]⟩ }
theorem wX_ok : wX.Ok := ⟨by decide, by decide, by decide, by decide, by decide, by decide, by decide, by decide⟩
theorem wBare_ok : wBare.Ok := ⟨by decide, by decide, by decide, by decide, by decide, by decide, by decide, by decide⟩
theorem wOne_ok : wOne.Ok := ⟨by decide, by decide, by decide, by decide, by decide, by decide, by decide, by decide⟩
theorem wTwo_ok : wTwo.Ok := ⟨by decide, by decide, by decide, by decide, by decide, by decide, by decide, by decide⟩
theorem wEd_ok : wEd.Ok := ⟨by decide, by decide, by decide, by decide, by decide, by decide, by decide, by decide⟩
theorem w_strip : stripR wX.bytes = (wBare.bytes, 0) := by
  have h := read_bytes wX wX_ok
  unfold stripR
  rw [if_neg (by rw [h.2]; decide), h.1, if_neg (by decide +kernel)]
  congr 2
theorem w_strip0 : stripR ⟨#[]⟩ = (⟨#[]⟩, 4) := by decide +kernel
theorem w_split : splitR wX.bytes 1 = (wOne.bytes, wTwo.bytes, 0) := by
  have h := read_bytes wX wX_ok
  unfold splitR
  rw [if_neg (by rw [h.2]; decide), h.1, if_neg (by decide)]
  congr 2
theorem w_split4 : splitR wX.bytes 4 = (⟨#[]⟩, ⟨#[]⟩, 2) := by
  have h := read_bytes wX wX_ok
  unfold splitR
  rw [if_neg (by rw [h.2]; decide), h.1, if_pos (by decide)]
theorem w_merge : mergeR wOne.bytes wTwo.bytes = (wX.bytes, 0) := by
  have h := read_bytes wOne wOne_ok
  have h2 := read_bytes wTwo wTwo_ok
  unfold mergeR
  rw [if_neg (by rw [h.2]; decide), if_neg (by rw [h2.2]; decide), h.1, h2.1, if_pos (by unfold mayMerge; decide)]
  congr 2
theorem w_turned : mergeR wTwo.bytes wOne.bytes = (⟨#[]⟩, 2) := by
  have h := read_bytes wOne wOne_ok
  have h2 := read_bytes wTwo wTwo_ok
  unfold mergeR
  rw [if_neg (by rw [h2.2]; decide), if_neg (by rw [h.2]; decide), h.1, h2.1, if_neg (by unfold mayMerge; decide)]
theorem w_edit : editR wX.bytes 2 (-2) = (wEd.bytes, 0) := by
  have h := read_bytes wX wX_ok
  unfold editR
  rw [if_neg (by rw [h.2]; decide), h.1, if_neg (by decide)]
  rfl
theorem w_over : editR wX.bytes 4 1 = (⟨#[]⟩, 2) := by
  have h := read_bytes wX wX_ok
  unfold editR
  rw [if_neg (by rw [h.2]; decide), h.1, if_pos (by decide)]
end Go.Proofs.YtbbkinldfpphdaaGreatDoor
