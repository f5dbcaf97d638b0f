/- A draft's segment may be laid. -/
import Derived.Test.YtdkkfhlijapbeaaSd
namespace Go.Proofs.Ytdkkfhlijapbeaa
open Go.RowKit Pl

theorem drItem_may (b : ByteArray) (h : b.size ≤ 8) (z : Nat) : mayI (drItem b z) ∧ (itemL (drItem b z)).length ≤ 10 := by
  have hz : (b.extract 0 (z % (b.size + 1))).size ≤ 8 := by rw [ByteArray.size_extract]; omega
  refine ⟨⟨?_, ?_, ?_⟩, ?_⟩
  · show (1 : Int) < 2 + (z : Int) % 40; omega
  · show 2 + (z : Int) % 40 ≤ 255; omega
  · show (b.extract 0 (z % (b.size + 1))).size ≤ 253; omega
  · rw [itemL_length]; show 2 + (b.extract 0 (z % (b.size + 1))).size ≤ 10; omega
theorem drItems_len (b : ByteArray) (h : b.size ≤ 8) : ∀ zs : List Nat, (itemsL (zs.map (drItem b))).length ≤ 10 * zs.length
  | [] => Nat.le_refl _
  | z :: zs => by
    have h1 := drItems_len b h zs
    have h2 := (drItem_may b h z).2
    show (itemL (drItem b z) ++ itemsL (zs.map (drItem b))).length ≤ _
    rw [List.length_append, List.length_cons]
    omega
theorem drBody_size (d : Dr) : (drBody d).size ≤ 8 := by unfold drBody; rw [ByteArray.size_extract]; omega
theorem drItems_may (d : Dr) : (∀ x ∈ drItems d, mayI x) ∧ (itemsL (drItems d)).length ≤ 40 := by
  refine ⟨fun x hx => ?_, ?_⟩
  · unfold drItems at hx
    obtain ⟨z, _, rfl⟩ := List.mem_map.1 hx
    exact (drItem_may _ (drBody_size d) z).1
  · unfold drItems
    have := drItems_len (drBody d) (drBody_size d) (d.zs.take 4)
    have : (d.zs.take 4).length ≤ 4 := by rw [List.length_take]; omega
    omega
theorem layI_good (xs : List It) (h : ∀ x ∈ xs, mayI x) (hl : (itemsL xs).length ≤ 40) : layI xs = (⟨(padL (itemsL xs)).toArray⟩, 0) := by
  unfold layI
  rw [if_pos h, if_neg (by omega)]
theorem padL_size (l : List UInt8) (h : l.length ≤ 40) : (⟨(padL l).toArray⟩ : ByteArray).size ≤ 40 ∧ (⟨(padL l).toArray⟩ : ByteArray).size % 4 = 0 := by
  have e : (⟨(padL l).toArray⟩ : ByteArray).size = l.length + padN l.length := by rw [size_ba]; simp [padL]
  have hp : padN l.length = (4 - l.length % 4) % 4 := rfl
  omega
theorem drSeg_ok (d : Dr) {w : World} (h : d.Ok w) : (drSeg d).Ok ∧ (drSeg d).data.size ≤ 100 := by
  have hm := drItems_may d
  have hl := layI_good _ hm.1 hm.2
  have hp := padL_size _ hm.2
  have hs : (drSeg d).data.size ≤ 100 := by show (d.data.extract 0 (min d.data.size 100)).size ≤ 100; rw [ByteArray.size_extract]; omega
  refine ⟨⟨h.h0, h.h1, h.h3, h.h4, h.h2, ?_, ?_, by omega⟩, hs⟩
  · show (layI (drItems d)).1.size ≤ 40
    rw [hl]; exact hp.1
  · show (layI (drItems d)).1.size % 4 = 0
    rw [hl]; exact hp.2
end Go.Proofs.Ytdkkfhlijapbeaa
