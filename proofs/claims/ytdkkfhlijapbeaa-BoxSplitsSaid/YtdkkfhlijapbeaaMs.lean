/- What splits and merges do, in plain Lean. -/
import Derived.Test.YtdkkfhlijapbeaaB6
namespace Go.Proofs.Ytdkkfhlijapbeaa
open Go.RowKit Pl

theorem plusN_two (a : Nat) (m n : Nat) : plusN (plusN a m) n = plusN a (m + n : Nat) := by unfold plusN; omega
theorem plusN_ne (a : Nat) (n : Nat) (_h : a < 4294967296) (h1 : 1 ≤ n) (h2 : n ≤ 1024) : a ≠ plusN a n := by unfold plusN; omega
theorem split_bytes_R (x : Sg) (h : x.Ok) (k : Nat) (h1 : 1 ≤ k) (hk : k < x.data.size) (hs : x.syn = false) (hr : x.rst = false) : splitR x.bytes k = ((splitA x k).bytes, (splitZ x k).bytes, 0) := by
  have e := read_bytes x h
  unfold splitR
  rw [if_neg (by rw [e.2]; decide), e.1, if_neg (by rw [hs, hr]; simp; omega)]
  rfl
theorem merge_bytes_R (x y : Sg) (hx : x.Ok) (hy : y.Ok) (h : mayMerge x y) : mergeR x.bytes y.bytes = ((mergeOf x y).bytes, 0) := by
  have e := read_bytes x hx
  have f := read_bytes y hy
  unfold mergeR
  rw [if_neg (by rw [e.2]; decide), if_neg (by rw [f.2]; decide), e.1, f.1, if_pos h]
theorem merge_bytes_no (x y : Sg) (hx : x.Ok) (hy : y.Ok) (h : ¬ mayMerge x y) : mergeR x.bytes y.bytes = (⟨#[]⟩, 2) := by
  have e := read_bytes x hx
  have f := read_bytes y hy
  unfold mergeR
  rw [if_neg (by rw [e.2]; decide), if_neg (by rw [f.2]; decide), e.1, f.1, if_neg h]
theorem cut_join (d : ByteArray) (k : Nat) (_h : k ≤ d.size) : d.extract 0 k ++ d.extract k d.size = d := by
  apply ba_ext
  rw [ByteArray.data_append, Array.toList_append, cut_data, cut_data, cutL, cutL, List.take_of_length_le (l := d.data.toList) (i := d.size) (by rw [bytes_len]; exact Nat.le_refl _)]
  exact List.take_append_drop k _
theorem cut_len (d : ByteArray) (k : Nat) (h : k ≤ d.size) : (d.extract 0 k).size = k ∧ (d.extract k d.size).size + k = d.size := by
  rw [ByteArray.size_extract, ByteArray.size_extract]; omega

theorem split_may (x : Sg) (hx : x.Ok) (hs : x.syn = false) (hr : x.rst = false) (k : Nat) (_h1 : 1 ≤ k) (hk : k < x.data.size) : mayMerge (splitA x k) (splitZ x k) := by
  have hc := cut_len x.data k (by omega)
  refine ⟨hs, hr, hs, hr, rfl, rfl, rfl, ?_, ?_⟩
  · show plusN x.seq k = plusN x.seq ((x.data.extract 0 k).size : Nat)
    rw [hc.1]
  · show (x.data.extract 0 k).size + (x.data.extract k x.data.size).size ≤ 1024
    have := hx.h7; omega
theorem split_back (x : Sg) (hx : x.Ok) (hs : x.syn = false) (hr : x.rst = false) (k : Nat) (h1 : 1 ≤ k) (hk : k < x.data.size) : mergeR (splitA x k).bytes (splitZ x k).bytes = (x.bytes, 0) := by
  rw [merge_bytes_R _ _ (splitA_ok hx k) (splitZ_ok hx k) (split_may x hx hs hr k h1 hk)]
  have e : mergeOf (splitA x k) (splitZ x k) = x := by
    unfold mergeOf splitA splitZ
    simp only [cut_join x.data k (by omega)]
  rw [e]
theorem split_turned (x : Sg) (hx : x.Ok) (_hs : x.syn = false) (_hr : x.rst = false) (k : Nat) (h1 : 1 ≤ k) (hk : k < x.data.size) : mergeR (splitZ x k).bytes (splitA x k).bytes = (⟨#[]⟩, 2) := by
  refine merge_bytes_no _ _ (splitZ_ok hx k) (splitA_ok hx k) fun hm => ?_
  have hc := cut_len x.data k (by omega)
  have h8 : x.seq = plusN (plusN x.seq k) ((x.data.extract k x.data.size).size : Nat) := hm.2.2.2.2.2.2.2.1
  rw [plusN_two] at h8
  exact plusN_ne x.seq _ hx.h2 (by omega) (by have := hx.h7; omega) h8

theorem split_gap (x : Sg) (hx : x.Ok) (_hs : x.syn = false) (_hr : x.rst = false) (k j : Nat) (h1 : 1 ≤ k) (hk : k < x.data.size) (g1 : 1 ≤ j) (hj : j < (splitZ x k).data.size) : mergeR (splitA x k).bytes (splitZ (splitZ x k) j).bytes = (⟨#[]⟩, 2) := by
  refine merge_bytes_no _ _ (splitA_ok hx k) (splitZ_ok (splitZ_ok hx k) j) fun hm => ?_
  have hc := cut_len x.data k (by omega)
  have h8 : plusN (plusN x.seq k) j = plusN x.seq ((x.data.extract 0 k).size : Nat) := hm.2.2.2.2.2.2.2.1
  rw [hc.1] at h8
  have hj2 : j < (x.data.extract k x.data.size).size := hj
  have := hx.h7
  exact plusN_ne (plusN x.seq k) j (plusN_lt _ _) g1 (by omega) h8.symm
/-- The first two of the three pieces. -/
def frontOf (x : Sg) (k j : Nat) : Sg := mergeOf (splitA x k) (splitA (splitZ x k) j)
theorem front_may (x : Sg) (hx : x.Ok) (hs : x.syn = false) (hr : x.rst = false) (k j : Nat) (_h1 : 1 ≤ k) (hk : k < x.data.size) (_g1 : 1 ≤ j) (hj : j < (splitZ x k).data.size) : mayMerge (splitA x k) (splitA (splitZ x k) j) := by
  have hc := cut_len x.data k (by omega)
  have hj2 : j < (x.data.extract k x.data.size).size := hj
  have hc2 := cut_len (x.data.extract k x.data.size) j (by omega)
  refine ⟨hs, hr, hs, hr, rfl, rfl, rfl, ?_, ?_⟩
  · show plusN x.seq k = plusN x.seq ((x.data.extract 0 k).size : Nat)
    rw [hc.1]
  · show (x.data.extract 0 k).size + ((x.data.extract k x.data.size).extract 0 j).size ≤ 1024
    have := hx.h7; omega
theorem front_R (x : Sg) (hx : x.Ok) (hs : x.syn = false) (hr : x.rst = false) (k j : Nat) (h1 : 1 ≤ k) (hk : k < x.data.size) (g1 : 1 ≤ j) (hj : j < (splitZ x k).data.size) : mergeR (splitA x k).bytes (splitA (splitZ x k) j).bytes = ((frontOf x k j).bytes, 0) :=
  merge_bytes_R _ _ (splitA_ok hx k) (splitA_ok (splitZ_ok hx k) j) (front_may x hx hs hr k j h1 hk g1 hj)
theorem front_ok (x : Sg) (hx : x.Ok) (hs : x.syn = false) (hr : x.rst = false) (k j : Nat) (h1 : 1 ≤ k) (hk : k < x.data.size) (g1 : 1 ≤ j) (hj : j < (splitZ x k).data.size) : (frontOf x k j).Ok := merge_ok (splitA_ok hx k) (front_may x hx hs hr k j h1 hk g1 hj)
theorem all_R (x : Sg) (hx : x.Ok) (hs : x.syn = false) (hr : x.rst = false) (k j : Nat) (h1 : 1 ≤ k) (hk : k < x.data.size) (g1 : 1 ≤ j) (hj : j < (splitZ x k).data.size) : mergeR (frontOf x k j).bytes (splitZ (splitZ x k) j).bytes = (x.bytes, 0) := by
  have hc := cut_len x.data k (by omega)
  have hj2 : j < (x.data.extract k x.data.size).size := hj
  have hc2 := cut_len (x.data.extract k x.data.size) j (by omega)
  have hf : (frontOf x k j).data.size = k + j := by
    show (x.data.extract 0 k ++ (x.data.extract k x.data.size).extract 0 j).size = k + j
    rw [ByteArray.size_append]; omega
  have hm : mayMerge (frontOf x k j) (splitZ (splitZ x k) j) := by
    refine ⟨hs, hr, hs, hr, rfl, rfl, rfl, ?_, ?_⟩
    · rw [hf]
      show plusN (plusN x.seq k) j = plusN x.seq (k + j : Nat)
      rw [plusN_two]
    · rw [hf]
      show k + j + ((x.data.extract k x.data.size).extract j (x.data.extract k x.data.size).size).size ≤ 1024
      have := hx.h7; omega
  rw [merge_bytes_R _ _ (front_ok x hx hs hr k j h1 hk g1 hj) (splitZ_ok (splitZ_ok hx k) j) hm]
  have e : mergeOf (frontOf x k j) (splitZ (splitZ x k) j) = x := by
    unfold frontOf mergeOf splitA splitZ
    simp only [ByteArray.append_assoc, cut_join (x.data.extract k x.data.size) j (by omega), cut_join x.data k (by omega)]
  rw [e]
end Go.Proofs.Ytdkkfhlijapbeaa
