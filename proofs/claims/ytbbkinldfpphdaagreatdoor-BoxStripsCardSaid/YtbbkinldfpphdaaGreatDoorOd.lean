/- The arguments, opened: a draft, by value. -/
import Derived.Test.YtbbkinldfpphdaaGreatDoorOq
import Derived.Test.YtbbkinldfpphdaaGreatDoorHp
import Derived.ChangeSlices
namespace Go.Proofs.YtbbkinldfpphdaaGreatDoor
open Go.Joins Go.ChangeShapes Go.WideShapes Go.RowKit

theorem val_string {P : Program} {u : TypeId} {w : World} {r : Reach} {b : Nat} {v : Value} (hu : P.underlying u = some .string) (h : Value.okWide P w r b u v) : ∃ s : ByteArray, v = .string s ∧ s.size ≤ 9223372036854775807 := by
  unfold Value.okWide at h
  rw [hu] at h
  exact cell_string hu h
theorem val_int {P : Program} {u : TypeId} {k : IntKind} {w : World} {r : Reach} {b : Nat} {v : Value} (hu : P.underlying u = some (.int k)) (h : Value.okWide P w r b u v) : ∃ n, v = .int k n ∧ k.has n := by
  unfold Value.okWide at h
  rw [hu] at h
  exact cell_int hu h

/-- A draft's kinds: a slice of bytes that may be read. -/
def Kinds (w : World) (v : Value) (zs : List Nat) : Prop :=
  (zs = [] ∧ v = .slice none 0 0) ∨ ∃ (a : Addr) (cap : Nat), v = .slice (some a) zs.length cap ∧ ∀ (i z : Nat), zs[i]? = some z → w.cell? (a.add i) = some (.int .u8 z) ∧ z < 256
theorem addr_block (a : Addr) (i : Nat) : (a.add i).block = a.block := by unfold Addr.add; split <;> rfl
theorem Kinds.kept {w w' : World} {v : Value} {zs : List Nat} (h : Kinds w v zs) (hb : Below w.heap.size w w') : Kinds w' v zs := by
  rcases h with h | ⟨a, cap, h1, h2⟩
  · exact .inl h
  · refine .inr ⟨a, cap, h1, fun i z hz => ?_⟩
    obtain ⟨k1, k2⟩ := h2 i z hz
    exact ⟨(hb.cell (p := a.add i) (block_lt_of_cell k1)).trans k1, k2⟩

/-- A draft. -/
structure Dr where
  src : Nat
  dst : Nat
  win : Nat
  seq : Nat
  ack : Nat
  flags : Nat
  kv : Value
  zs : List Nat
  body : ByteArray
  data : ByteArray
def Dr.v (d : Dr) : Value := .agg #[.int .u16 d.src, .int .u16 d.dst, .int .u16 d.win, .int .u32 d.seq, .int .u32 d.ack, .int .u8 d.flags, d.kv, .string d.body, .string d.data]
structure Dr.Ok (d : Dr) (w : World) : Prop where
  h0 : d.src < 65536
  h1 : d.dst < 65536
  h2 : d.win < 65536
  h3 : d.seq < 4294967296
  h4 : d.ack < 4294967296
  h5 : d.flags < 256
  h6 : Kinds w d.kv d.zs
  h7 : d.body.size ≤ 9223372036854775807
  h8 : d.data.size ≤ 9223372036854775807
theorem Dr.Ok.kept {d : Dr} {w w' : World} (h : d.Ok w) (hb : Below w.heap.size w w') : d.Ok w' := ⟨h.h0, h.h1, h.h2, h.h3, h.h4, h.h5, h.h6.kept hb, h.h7, h.h8⟩

theorem Dr.Ok.form {d : Dr} {w : World} (h : d.Ok w) : ∃ b n c, d.kv = .slice b n c := by
  rcases h.h6 with ⟨_, h1⟩ | ⟨a, cap, h1, _⟩
  · exact ⟨_, _, _, h1⟩
  · exact ⟨_, _, _, h1⟩
theorem At.cells9 {w : World} {g : Nat} {t : TypeId} {a0 a1 a2 a3 a4 a5 a6 a7 a8 : Value} (h : At w g t [a0, a1, a2, a3, a4, a5, a6, a7, a8]) :
    w.cell? ⟨g, 0, none⟩ = some a0 ∧ w.cell? ⟨g, 1, none⟩ = some a1 ∧ w.cell? ⟨g, 2, none⟩ = some a2 ∧ w.cell? ⟨g, 3, none⟩ = some a3 ∧ w.cell? ⟨g, 4, none⟩ = some a4 ∧ w.cell? ⟨g, 5, none⟩ = some a5 ∧ w.cell? ⟨g, 6, none⟩ = some a6 ∧ w.cell? ⟨g, 7, none⟩ = some a7 ∧ w.cell? ⟨g, 8, none⟩ = some a8 :=
  ⟨h.cell 0, h.cell 1, h.cell 2, h.cell 3, h.cell 4, h.cell 5, h.cell 6, h.cell 7, h.cell 8⟩

theorem draft_cells : Tryz.prog.cellTypes Tryz.prog.depth 26 = some [22, 22, 22, 23, 23, 5, 24, 9, 9] := by kernel_rfl

set_option maxRecDepth 20000 in
theorem draft_open {H : Type} {enc : TypeId × Value → H} {w : World} {r : Reach} {b : Nat} {v : Value} {d : DataW H} {p : List MemPlace} (h : Value.okWide Tryz.prog w r b 26 v)
    (hT : DataW.Trod enc Tryz.prog w 0 (fun _ => true) true 26 v d p) : ∃ x : Dr, v = x.v ∧ x.Ok w := by
  obtain ⟨cs, rfl, hsz, ts, hts, _, hc⟩ : ∃ cs, v = .agg cs ∧ cs.size = Tryz.prog.cellsOf 26 ∧ Row.okWide Tryz.prog w r b 26 cs := by
    unfold Value.okWide at h
    rw [Tryz.underlying26] at h
    exact h
  rw [draft_cells] at hts
  obtain rfl := Option.some.inj hts
  have hC : Tryz.prog.cellsOf 26 = 9 := by kernel_rfl
  rw [hC] at hsz
  obtain ⟨l⟩ := cs
  match l, hsz with
  | [c0, c1, c2, c3, c4, c5, c6, c7, c8], _ =>
    obtain ⟨_, e, h0⟩ := hc 0 c0 rfl; obtain rfl := Option.some.inj e
    obtain ⟨_, e, h1⟩ := hc 1 c1 rfl; obtain rfl := Option.some.inj e
    obtain ⟨_, e, h2⟩ := hc 2 c2 rfl; obtain rfl := Option.some.inj e
    obtain ⟨_, e, h3⟩ := hc 3 c3 rfl; obtain rfl := Option.some.inj e
    obtain ⟨_, e, h4⟩ := hc 4 c4 rfl; obtain rfl := Option.some.inj e
    obtain ⟨_, e, h5⟩ := hc 5 c5 rfl; obtain rfl := Option.some.inj e
    obtain ⟨_, e, h7⟩ := hc 7 c7 rfl; obtain rfl := Option.some.inj e
    obtain ⟨_, e, h8⟩ := hc 8 c8 rfl; obtain rfl := Option.some.inj e
    obtain ⟨_, rfl, k0⟩ := cell_int Tryz.underlying22 h0
    obtain ⟨_, rfl, k1⟩ := cell_int Tryz.underlying22 h1
    obtain ⟨_, rfl, k2⟩ := cell_int Tryz.underlying22 h2
    obtain ⟨_, rfl, k3⟩ := cell_int Tryz.underlying23 h3
    obtain ⟨_, rfl, k4⟩ := cell_int Tryz.underlying23 h4
    obtain ⟨_, rfl, k5⟩ := cell_int Tryz.underlying5 h5
    obtain ⟨body, rfl, k7⟩ := cell_string Tryz.underlying9 h7
    obtain ⟨data, rfl, k8⟩ := cell_string Tryz.underlying9 h8
    obtain ⟨src, rfl, j0⟩ := has_u16 k0
    obtain ⟨dst, rfl, j1⟩ := has_u16 k1
    obtain ⟨win, rfl, j2⟩ := has_u16 k2
    obtain ⟨seq, rfl, j3⟩ := has_u32 k3
    obtain ⟨ack, rfl, j4⟩ := has_u32 k4
    obtain ⟨flags, rfl, j5⟩ := has_u8 k5
    obtain ⟨fuel, hf⟩ := hT
    obtain ⟨xs, n, _, hx, hl, hlen, hg⟩ := DataW.trod_struct Tryz.underlying26 hf
    have g6 := hg 6 _ rfl
    have hx6 : 6 < xs.length := by rw [hlen]; decide
    rw [List.getElem?_eq_getElem hx6] at g6
    have g6' : DataW.trod enc Tryz.prog w 0 (fun _ => true) true n 24 [c6] = some xs[6] := g6
    rcases open_ints Tryz.underlying24 Tryz.underlying5 (by kernel_rfl) g6' with ⟨hcs, _⟩ | ⟨a, len, cap, zl, hcs, _, hlc, _, hzl, _, hcell, hwf⟩
    · obtain rfl : c6 = .slice none 0 0 := by simpa using hcs
      exact ⟨⟨src, dst, win, seq, ack, flags, .slice none 0 0, [], body, data⟩, rfl, ⟨j0, j1, j2, j3, j4, j5, .inl ⟨rfl, rfl⟩, k7, k8⟩⟩
    · obtain rfl : c6 = .slice (some a) len cap := by simpa using hcs
      have hlz : len ≤ zl.length := by rw [hzl]; simpa using hlc
      have hln : ((zl.take len).map Int.toNat).length = len := by simp; omega
      refine ⟨⟨src, dst, win, seq, ack, flags, .slice (some a) len cap, (zl.take len).map Int.toNat, body, data⟩, rfl, ⟨j0, j1, j2, j3, j4, j5, .inr ⟨a, cap, by rw [hln], fun i z hz => ?_⟩, k7, k8⟩⟩
      have hi : i < len := by
        have h2 : i < ((zl.take len).map Int.toNat).length := (List.getElem?_eq_some_iff.1 hz).1
        rw [hln] at h2; exact h2
      have hiz : i < zl.length := by omega
      have hc := hcell i hiz
      rw [List.getElem?_map, List.getElem?_take, if_pos hi, List.getElem?_eq_getElem hiz] at hz
      have hw := hwf zl[i] (List.getElem_mem hiz)
      have hw2 : IntKind.u8.has zl[i] := by simp [Lit.wf] at hw; exact hw
      obtain ⟨m, hm, hm2⟩ := has_u8 hw2
      rw [hm] at hz
      simp at hz
      subst hz
      rw [List.getD_eq_getElem?_getD, List.getElem?_eq_getElem hiz] at hc
      exact ⟨by rw [hc]; simp [hm], hm2⟩
end Go.Proofs.YtbbkinldfpphdaaGreatDoor
