/- A text's bytes in memory, that may be written. -/
import Derived.Test.YtbbkinldfpphdaaGreatDoorMk
import Derived.Lib.ConvBytes
namespace Go.Proofs.YtbbkinldfpphdaaGreatDoor
open Go.RowKit Pl

/-- Block g begins with these bytes; they may be written. -/
def Bf (w : World) (g : Nat) (l : List UInt8) : Prop :=
  ∃ (cs : Array Value) (t : TypeId) (fr : Nat × Nat), w.heap[g]? = some (.cells cs t fr) ∧ l.length ≤ fr.1 ∧ ∀ i, i < l.length → cs[i]? = some (.int .u8 ((l.getD i 0).toNat : Nat))

section
variable {w w' : World} {g : Nat} {l : List UInt8}
theorem Bf.lt (h : Bf w g l) : g < w.heap.size := by
  obtain ⟨cs, t, fr, h1, _⟩ := h
  rcases Nat.lt_or_ge g w.heap.size with hlt | hge
  · exact hlt
  · rw [Array.getElem?_eq_none hge] at h1; cases h1
theorem Bf.cell (h : Bf w g l) (i : Nat) (hi : i < l.length) : w.cell? ⟨g, i, none⟩ = some (.int .u8 ((l.getD i 0).toNat : Nat)) := by
  obtain ⟨cs, t, fr, h1, _, h3⟩ := h
  rw [cell_of_row w g i cs t fr h1, h3 i hi]
theorem Bf.frozen (h : Bf w g l) (i : Nat) (hi : i < l.length) : w.frozen? ⟨g, i, none⟩ = false := by
  obtain ⟨cs, t, fr, h1, h2, _⟩ := h
  unfold World.frozen?
  obtain ⟨lo, hi'⟩ := fr
  simp only [h1]
  simp at h2 ⊢
  omega
theorem Bf.below {B : Nat} (h : Bf w g l) (hb : Below B w w') (hg : g < B) : Bf w' g l := by
  obtain ⟨cs, t, fr, h1, h2⟩ := h
  exact ⟨cs, t, fr, (hb.block g hg).trans h1, h2⟩
theorem Bf.kept (h : Bf w g l) (hb : Below w.heap.size w w') : Bf w' g l := h.below hb h.lt
theorem Bf.drew (h : Bf w g l) : Bf w.drew g l := h
theorem Bf.alloc (h : Bf w g l) (o : Obj) : Bf (w.alloc o) g l := by
  obtain ⟨cs, t, fr, h1, h2⟩ := h
  exact ⟨cs, t, fr, (Below.heap_alloc w o g (Bf.lt ⟨cs, t, fr, h1, h2⟩)).trans h1, h2⟩
theorem Bf.far (h : Bf w g l) {p : Addr} (hp : g ≠ p.block) (u : Value) : Bf (w.setCell p u) g l := by
  obtain ⟨cs, t, fr, h1, h2⟩ := h
  exact ⟨cs, t, fr, (Below.heap_setCell w p u g hp).trans h1, h2⟩
theorem Bf.set_ (h : Bf w g l) (i : Nat) (z : Int) (h0 : 0 ≤ z) (hz : z < 256) : Bf (w.setCell ⟨g, i, none⟩ (.int .u8 z)) g (l.set i (UInt8.ofNat z.toNat)) := by
  obtain ⟨cs, t, fr, h1, h2, h3⟩ := h
  refine ⟨cs.setIfInBounds i (.int .u8 z), t, fr, ?_, by simpa using h2, fun j hj => ?_⟩
  · rw [setCell_eq_setRow w g i cs t fr _ h1]
    exact setRow_heap w g cs _ t fr h1
  · rw [List.length_set] at hj
    have h4 := h3 j hj
    have hjc : j < cs.size := (Array.getElem?_eq_some_iff.1 h4).1
    by_cases e : i = j
    · subst e
      rw [Array.getElem?_setIfInBounds_self_of_lt hjc]
      rw [List.getD_eq_getElem?_getD, List.getElem?_set_self hj]
      simp only [Option.getD_some]
      rw [UInt8.toNat_ofNat', Nat.mod_eq_of_lt (by omega)]
      congr 2
      omega
    · rw [Array.getElem?_setIfInBounds_ne e, h4, List.getD_eq_getElem?_getD, List.getD_eq_getElem?_getD, List.getElem?_set_ne e]
end

theorem bytes_new (w : World) (e : TypeId) (s : ByteArray) : Bf (Lib.bytesWorld w e s) w.heap.size s.data.toList := by
  refine ⟨_, e, _, Lib.bytesWorld_at_new w e s, ?_, fun i hi => ?_⟩
  · simp [Lib.bytesCells]
  · have h1 : i < s.data.size := by simpa using hi
    have h2 : i < s.size := h1
    simp only [Lib.bytesCells, Array.getElem?_append, Array.size_map, List.getD_eq_getElem?_getD]
    rw [if_pos h1, Array.getElem?_map, Array.getElem?_toList, Array.getElem?_eq_getElem h1]
    rfl
theorem bytes_below (w : World) (e : TypeId) (s : ByteArray) : Below w.heap.size w (Lib.bytesWorld w e s) :=
  ⟨rfl, rfl, rfl, by rw [Lib.bytesWorld_size]; omega, fun k hk => Lib.bytesWorld_at_old w e s k hk⟩
theorem bytes_conv (w : World) (s : ByteArray) : ∃ c w', (convert 9 24 (.string s)).run Tryz.prog w = .ok (.slice (some ⟨w.heap.size, 0, none⟩) s.size c) w' ∧ Bf w' w.heap.size s.data.toList ∧ Below w.heap.size w w' ∧ w'.heap.size = w.heap.size + 1 :=
  ⟨_, _, Lib.run_convert_string_bytes w 9 24 5 s Tryz.underlying9 Tryz.underlying24 Tryz.underlying5, bytes_new w _ s, bytes_below w _ s, Lib.bytesWorld_size w _ s⟩
theorem bytes_conv' (w : World) (s : ByteArray) : ∃ c w', (convert 9 24 (.string s)).run Tryz.prog w = .ok (.slice (some ⟨w.heap.size, 0, none⟩) s.size c) w' ∧ Bf w' w.heap.size s.data.toList ∧ Below w.heap.size w w' ∧ w'.heap.size = w.heap.size + 1 ∧ s.size ≤ c :=
  ⟨_, _, Lib.run_convert_string_bytes w 9 24 5 s Tryz.underlying9 Tryz.underlying24 Tryz.underlying5, bytes_new w _ s, bytes_below w _ s, Lib.bytesWorld_size w _ s, grownCap_ge w s.size 0 _⟩
theorem bytes_back {w : World} {g : Nat} {l : List UInt8} (h : Bf w g l) (n c : Nat) (hn : n = l.length) : (convert 24 9 (.slice (some ⟨g, 0, none⟩) n c)).run Tryz.prog w = .ok (.string ⟨l.toArray⟩) w := by
  rw [← strOf_bytes]
  refine run_convert_bytes_arg w 24 5 Tryz.underlying24 Tryz.underlying5 g 0 n c (l.map fun b => (b.toNat : Int)) (by simp [hn]) (fun i hi => ?_) 9 Tryz.underlying9
  rw [Nat.zero_add, h.cell i (by omega)]
  simp [List.getD_eq_getElem?_getD, List.getElem?_eq_getElem (show i < l.length by omega)]
end Go.Proofs.YtbbkinldfpphdaaGreatDoor
