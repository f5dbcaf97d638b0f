/- The program's package box, its small functions walked: seq.Plus, bound; segments as data. -/
import Derived.Test.YtbbkinldfpphdaaGreatDoorPz
import Derived.Test.YtbbkinldfpphdaaGreatDoorPg
import Derived.Test.YtbbkinldfpphdaaGreatDoorMk
namespace Go.Proofs.YtbbkinldfpphdaaGreatDoor
open Go.RowKit Pl

/-- A number that goes round, so much further. -/
def plusN (a : Nat) (n : Int) : Nat := (((a : Int) + n) % 4294967296).toNat
theorem plusN_lt (a : Nat) (n : Int) : plusN a n < 4294967296 := by unfold plusN; omega

set_option maxHeartbeats 400000 in
theorem plus_any (a : Nat) (n : Int) (w : World) :
    Calls Tryz.prog 32 #[.int .u32 a, .int .i64 n] w fun e w' => e = .returned (.int .u32 (plusN a n : Nat)) ∧ w = w' := by
  go_enter Tryz.func32, Tryz.ntmps32
  go_wp2
  go_ret
  refine ⟨ret_int ?_, rfl⟩
  unfold plusN
  omega

set_option maxHeartbeats 400000 in
theorem bound_any (p a0 a1 a2 a3 a9 : Value) (syn ackOn fin rst : Bool) (area data : Value) (w : World) :
    Calls Tryz.prog 31 #[.agg #[p, a0, a1, a2, a3, .bool syn, .bool ackOn, .bool fin, .bool rst, a9, area, data]] w fun e w' => e = .returned (.bool (syn || rst)) ∧ Below w.heap.size w w' := by
  cases syn
  all_goals
    go_enter Tryz.func31, Tryz.ntmps31
    go_wp2
    go_ret
    exact ⟨rfl, (Below.refl _ _).alloc (Nat.le_refl _) _⟩

/-- A segment, but for its path. -/
structure Sg where
  src : Nat
  dst : Nat
  seq : Nat
  ack : Nat
  syn : Bool
  ackOn : Bool
  fin : Bool
  rst : Bool
  win : Nat
  area : ByteArray
  data : ByteArray
def Sg.cs (x : Sg) : List Value := [.int .i64 0, .int .u16 x.src, .int .u16 x.dst, .int .u32 x.seq, .int .u32 x.ack, .bool x.syn, .bool x.ackOn, .bool x.fin, .bool x.rst, .int .u16 x.win, .string x.area, .string x.data]
def Sg.v (x : Sg) : Value := .agg #[.int .i64 0, .int .u16 x.src, .int .u16 x.dst, .int .u32 x.seq, .int .u32 x.ack, .bool x.syn, .bool x.ackOn, .bool x.fin, .bool x.rst, .int .u16 x.win, .string x.area, .string x.data]
structure Sg.Ok (x : Sg) : Prop where
  h0 : x.src < 65536
  h1 : x.dst < 65536
  h2 : x.seq < 4294967296
  h3 : x.ack < 4294967296
  h4 : x.win < 65536
  h5 : x.area.size ≤ 40
  h6 : x.area.size % 4 = 0
  h7 : x.data.size ≤ 1024
def Sg.bytes (x : Sg) : ByteArray := segS x.src x.dst x.seq x.ack x.syn x.ackOn x.fin x.rst x.win x.area x.data
/-- The segment that bytes are. -/
def readS (s : ByteArray) : Sg :=
  ⟨pf s 0 2, pf s 2 4, pf s 4 8, pf s 8 12, decide (bn s.data.toList 13 / 2 % 2 = 1), decide (bn s.data.toList 13 / 16 % 2 = 1), decide (bn s.data.toList 13 % 2 = 1), decide (bn s.data.toList 13 / 4 % 2 = 1), pf s 14 16,
    s.extract 20 (bn s.data.toList 12 / 4), s.extract (bn s.data.toList 12 / 4) s.size⟩
def noS : Sg := ⟨0, 0, 0, 0, false, false, false, false, 0, ⟨#[]⟩, ⟨#[]⟩⟩
/-- What is wrong with bytes. -/
def wrong (s : ByteArray) : Nat := rightL s.data.toList

def LayTo (f : FuncId) (x : Sg) (t : ByteArray) (k : Int) : Prop := ∀ w, Calls Tryz.prog f #[x.v] w fun e w' => e = .returned (.tuple #[.string t, .int .i64 k]) ∧ Below w.heap.size w w'
def ParseTo (f : FuncId) (s : ByteArray) (x : Sg) (k : Int) : Prop := ∀ w, Calls Tryz.prog f #[.string s] w fun e w' => e = .returned (.tuple #[x.v, .int .i64 k]) ∧ Below w.heap.size w w'
theorem lay_ok (x : Sg) (h : x.Ok) : LayTo 8 x x.bytes 0 :=
  fun w => lay_good 0 x.src x.dst x.seq x.ack x.syn x.ackOn x.fin x.rst x.win x.area x.data w h.h0 h.h1 h.h2 h.h3 h.h4 h.h5 h.h6 h.h7
theorem parse_ok (s : ByteArray) (hz : s.size ≤ 9223372036854775807) (h : wrong s = 0) : ParseTo 10 s (readS s) 0 := fun w => parse_good s w hz h
theorem parse_no (s : ByteArray) (hz : s.size ≤ 9223372036854775807) (h : wrong s ≠ 0) : ParseTo 10 s noS (wrong s : Nat) := fun w => parse_bad s w hz h
theorem read_ok (s : ByteArray) (h : wrong s = 0) : (readS s).Ok ∧ 20 ≤ s.size ∧ s.size ≤ 1084 := by
  obtain ⟨src, dst, seq, ack, syn, ackOn, fin, rst, win, area, data, hp, h0, h1, h2, h3, h4, h5, h6, h7, h8, _⟩ := parse_back s h
  have e : readS s = ⟨src, dst, seq, ack, syn, ackOn, fin, rst, win, area, data⟩ := by
    unfold parseC segC at hp
    simp only [List.cons.injEq, Value.int.injEq, Value.bool.injEq, Value.string.injEq, true_and, and_true, Int.natCast_inj] at hp
    obtain ⟨q1, q2, q3, q4, q5, q6, q7, q8, q9, q10, q11⟩ := hp
    unfold readS
    rw [q1, q2, q3, q4, q5, q6, q7, q8, q9, q10, q11]
  rw [e]
  exact ⟨⟨h0, h1, h2, h3, h4, h5, h6, h7⟩, by omega, by omega⟩
theorem read_bytes (x : Sg) (h : x.Ok) : readS x.bytes = x ∧ wrong x.bytes = 0 := by
  refine ⟨?_, segS_right _ _ _ _ _ _ _ _ _ _ _ h.h5 h.h6 h.h7⟩
  have hp := segS_parse x.src x.dst x.seq x.ack x.syn x.ackOn x.fin x.rst x.win x.area x.data h.h0 h.h1 h.h2 h.h3 h.h4 h.h5 h.h6
  unfold parseC segC at hp
  simp only [List.cons.injEq, Value.int.injEq, Value.bool.injEq, Value.string.injEq, true_and, and_true, Int.natCast_inj] at hp
  obtain ⟨q1, q2, q3, q4, q5, q6, q7, q8, q9, q10, q11⟩ := hp
  unfold readS Sg.bytes
  rw [q1, q2, q3, q4, q5, q6, q7, q8, q9, q10, q11]
theorem bytes_size (x : Sg) : x.bytes.size = 20 + (x.area.size + x.data.size) := segS_size _ _ _ _ _ _ _ _ _ _ _

theorem allocThen {a w w1 : World} {o : Obj} (h : Below a.heap.size a w) (hb : Below (w.alloc o).heap.size (w.alloc o) w1) : Below a.heap.size a w1 :=
  (h.alloc h.size o).trans (hb.mono (h.alloc h.size o).size)
end Go.Proofs.YtbbkinldfpphdaaGreatDoor
