/- The arguments, opened: a segment, a shape, by value. -/
import Derived.Test.YtbbkinldfpphdaaGreatDoorFm
import Derived.Test.YtbbkinldfpphdaaGreatDoorLay
namespace Go.Proofs.YtbbkinldfpphdaaGreatDoor
open Go.ChangeShapes Go.WideShapes Go.RowKit

section
variable {P : Program} {w : World} {r : Reach} {b : Nat} {u : TypeId} {v : Value}
theorem cell_int {k : IntKind} (hu : P.underlying u = some (.int k)) (h : Cell.okWide P w r b u v) : ∃ n, v = .int k n ∧ k.has n := by
  unfold Cell.okWide Cell.ok at h
  rw [hu] at h
  cases v <;> simp at h
  obtain ⟨rfl, h⟩ := h
  exact ⟨_, rfl, h⟩
theorem cell_bool (hu : P.underlying u = some .bool) (h : Cell.okWide P w r b u v) : ∃ n, v = .bool n := by
  unfold Cell.okWide Cell.ok at h
  rw [hu] at h
  cases v <;> simp at h
  exact ⟨_, rfl⟩
theorem cell_string (hu : P.underlying u = some .string) (h : Cell.okWide P w r b u v) : ∃ s : ByteArray, v = .string s ∧ s.size ≤ 9223372036854775807 := by
  unfold Cell.okWide Cell.ok at h
  rw [hu] at h
  cases v <;> simp at h
  exact ⟨_, rfl, by have h2 : (_ : Int) ≤ 9223372036854775807 := h; omega⟩
theorem has_u8 {n : Int} (h : IntKind.u8.has n) : ∃ m : Nat, n = (m : Int) ∧ m < 256 := by
  have h1 : (0 : Int) ≤ n ∧ n ≤ 255 := h
  exact ⟨n.toNat, by omega, by omega⟩
theorem has_u16 {n : Int} (h : IntKind.u16.has n) : ∃ m : Nat, n = (m : Int) ∧ m < 65536 := by
  have h1 : (0 : Int) ≤ n ∧ n ≤ 65535 := h
  exact ⟨n.toNat, by omega, by omega⟩
theorem has_u32 {n : Int} (h : IntKind.u32.has n) : ∃ m : Nat, n = (m : Int) ∧ m < 4294967296 := by
  have h1 : (0 : Int) ≤ n ∧ n ≤ 4294967295 := h
  exact ⟨n.toNat, by omega, by omega⟩
end

set_option maxRecDepth 20000 in
theorem seg_cells : Tryz.prog.cellTypes Tryz.prog.depth 29 = some [3, 22, 22, 23, 23, 4, 4, 4, 4, 22, 9, 9] := by kernel_rfl

set_option maxRecDepth 20000 in
theorem seg_open {w : World} {r : Reach} {b : Nat} {v : Value} (h : Value.okWide Tryz.prog w r b 29 v) :
    ∃ (path : Int) (src dst seq ack : Nat) (syn ackOn fin rst : Bool) (win : Nat) (area data : ByteArray), v = .agg (segC path src dst seq ack syn ackOn fin rst win area data).toArray ∧
      src < 65536 ∧ dst < 65536 ∧ seq < 4294967296 ∧ ack < 4294967296 ∧ win < 65536 ∧ area.size ≤ 9223372036854775807 ∧ data.size ≤ 9223372036854775807 := by
  obtain ⟨cs, rfl, hsz, ts, hts, _, hc⟩ : ∃ cs, v = .agg cs ∧ cs.size = Tryz.prog.cellsOf 29 ∧ Row.okWide Tryz.prog w r b 29 cs := by
    unfold Value.okWide at h
    rw [Tryz.underlying29] at h
    exact h
  rw [seg_cells] at hts
  obtain rfl := Option.some.inj hts
  have hC : Tryz.prog.cellsOf 29 = 12 := by kernel_rfl
  rw [hC] at hsz
  obtain ⟨l⟩ := cs
  match l, hsz with
  | [c0, c1, c2, c3, c4, c5, c6, c7, c8, c9, c10, c11], _ =>
    obtain ⟨_, e, h0⟩ := hc 0 c0 rfl; obtain rfl := Option.some.inj e
    obtain ⟨_, e, h1⟩ := hc 1 c1 rfl; obtain rfl := Option.some.inj e
    obtain ⟨_, e, h2⟩ := hc 2 c2 rfl; obtain rfl := Option.some.inj e
    obtain ⟨_, e, h3⟩ := hc 3 c3 rfl; obtain rfl := Option.some.inj e
    obtain ⟨_, e, h4⟩ := hc 4 c4 rfl; obtain rfl := Option.some.inj e
    obtain ⟨_, e, h5⟩ := hc 5 c5 rfl; obtain rfl := Option.some.inj e
    obtain ⟨_, e, h6⟩ := hc 6 c6 rfl; obtain rfl := Option.some.inj e
    obtain ⟨_, e, h7⟩ := hc 7 c7 rfl; obtain rfl := Option.some.inj e
    obtain ⟨_, e, h8⟩ := hc 8 c8 rfl; obtain rfl := Option.some.inj e
    obtain ⟨_, e, h9⟩ := hc 9 c9 rfl; obtain rfl := Option.some.inj e
    obtain ⟨_, e, h10⟩ := hc 10 c10 rfl; obtain rfl := Option.some.inj e
    obtain ⟨_, e, h11⟩ := hc 11 c11 rfl; obtain rfl := Option.some.inj e
    obtain ⟨path, rfl, _⟩ := cell_int Tryz.underlying3 h0
    obtain ⟨_, rfl, k1⟩ := cell_int Tryz.underlying22 h1
    obtain ⟨_, rfl, k2⟩ := cell_int Tryz.underlying22 h2
    obtain ⟨_, rfl, k3⟩ := cell_int Tryz.underlying23 h3
    obtain ⟨_, rfl, k4⟩ := cell_int Tryz.underlying23 h4
    obtain ⟨syn, rfl⟩ := cell_bool Tryz.underlying4 h5
    obtain ⟨ackOn, rfl⟩ := cell_bool Tryz.underlying4 h6
    obtain ⟨fin, rfl⟩ := cell_bool Tryz.underlying4 h7
    obtain ⟨rst, rfl⟩ := cell_bool Tryz.underlying4 h8
    obtain ⟨_, rfl, k9⟩ := cell_int Tryz.underlying22 h9
    obtain ⟨area, rfl, k10⟩ := cell_string Tryz.underlying9 h10
    obtain ⟨data, rfl, k11⟩ := cell_string Tryz.underlying9 h11
    obtain ⟨src, rfl, j1⟩ := has_u16 k1
    obtain ⟨dst, rfl, j2⟩ := has_u16 k2
    obtain ⟨seq, rfl, j3⟩ := has_u32 k3
    obtain ⟨ack, rfl, j4⟩ := has_u32 k4
    obtain ⟨win, rfl, j9⟩ := has_u16 k9
    exact ⟨path, src, dst, seq, ack, syn, ackOn, fin, rst, win, area, data, rfl, j1, j2, j3, j4, j9, k10, k11⟩

set_option maxRecDepth 20000 in
theorem own1 : ownKnob Tryz.prog.godebug = none := by kernel_rfl
set_option maxRecDepth 20000 in
theorem laid1 : laidOutB Tryz.prog = true := by kernel_rfl

end Go.Proofs.YtbbkinldfpphdaaGreatDoor
