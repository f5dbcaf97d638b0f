/- The program's package head, its small functions walked: bits, flags, put, get. -/
import Derived.Test.YtbbkinldfpphdaaGreatDoorSum
namespace Go.Proofs.YtbbkinldfpphdaaGreatDoor
open Go.RowKit Pl

def bitsV : Value := .agg #[.int .u8 1, .int .u8 2, .int .u8 4, .int .u8 16]
set_option maxHeartbeats 400000 in
theorem bits_any (w : World) :
    Calls Tryz.prog 20 #[] w fun e w' => e = .returned (.agg #[.int .u8 1, .int .u8 2, .int .u8 4, .int .u8 16]) ∧ Below w.heap.size w w' := by
  go_enter Tryz.func20, Tryz.ntmps20
  go_wp2
  exact bodyPost_ret (v := .agg #[.int .u8 1, .int .u8 2, .int .u8 4, .int .u8 16]) (by simp [results, Tryz.results20, go_sem]) rfl ⟨rfl, (Below.refl _ _).alloc (Nat.le_refl _) _⟩

set_option maxHeartbeats 1000000 in
theorem flags_any (b : Nat) (w : World) (cs : List Value) (_hb : At w b 29 cs) :
    Calls Tryz.prog 19 #[.pointer (some ⟨b, 0, none⟩)] w fun e w' =>
      e = .returned (.agg #[.pointer (some ⟨b, 7, none⟩), .pointer (some ⟨b, 5, none⟩), .pointer (some ⟨b, 8, none⟩), .pointer (some ⟨b, 6, none⟩)]) ∧ Below w.heap.size w w' := by
  go_enter Tryz.func19, Tryz.ntmps19
  go_wp2
  go_region
  all_goals go_wp2
  all_goals exact bodyPost_ret (v := .agg #[.pointer (some ⟨b, 7, none⟩), .pointer (some ⟨b, 5, none⟩), .pointer (some ⟨b, 8, none⟩), .pointer (some ⟨b, 6, none⟩)]) (by simp [results, Tryz.results19, go_sem]) rfl ⟨rfl, by
    first
      | exact ((Below.refl _ _).alloc (Nat.le_refl _) _)
      | exact ((Below.refl _ _).alloc (Nat.le_refl _) _).drew⟩

/-- What 'put' leaves: len numbers from place off on, the last one the number's lowest byte. -/
def putC : Nat → Nat → Nat → List Value → List Value
  | 0, _, _, cs => cs
  | k + 1, off, n, cs => putC k off (n / 256) (cs.set (off + k) (.int .u8 (n % 256 : Nat)))
theorem putC_length : ∀ (k off n : Nat) (cs : List Value), (putC k off n cs).length = cs.length
  | 0, _, _, _ => rfl
  | k + 1, off, n, cs => by rw [putC, putC_length k]; simp

set_option maxHeartbeats 1000000 in
theorem put_any (g off len cap n : Nat) (t : TypeId) (cs : List Value) (w : World) (hg : At w g t cs) (hl : off + len ≤ cs.length) (hs : len ≤ 1000) (hn : n < 4294967296) :
    Calls Tryz.prog 18 #[.slice (some ⟨g, off, none⟩) len cap, .int .u32 n] w fun e w' =>
      e = .returned (.tuple #[]) ∧ At w' g t (putC len off n cs) ∧ w.grownBy w' (some g) := by
  go_enter Tryz.func18, Tryz.ntmps18
  have HG := Lib.hid hg
  clear hg
  go_wp2
  go_loopw [1, 4] (fun n' i wr => ∃ (k m : Nat) (cs' : List Value), k ≤ len ∧ m < 4294967296 ∧ n' = .int .u32 m ∧ i = .int .i64 ((k : Int) - 1) ∧ Hid (At wr g t cs') ∧ cs'.length = cs.length ∧ Hid (putC k off m cs' = putC len off n cs) ∧ Hid (w.grownBy wr (some g))) (fun _ i _ => (intOf i + 1).toNat)
  case atStart => exact ⟨len, n, cs, Nat.le_refl _, hn, rfl, rfl, HG, rfl, rfl, only_refl w g⟩
  case round =>
    obtain ⟨k, m, cs', hk, hm, rfl, rfl, HA, hcl, HP, HO⟩ := hrel
    cases k with
    | zero =>
      go_wp2
      go_end0
      exact ⟨rfl, by rw [← HP.out]; exact HA.out, HO.out⟩
    | succ j =>
      have hlt : off + j < cs'.length := by omega
      have hc : wr.cell? ⟨g, off + j, none⟩ = some cs'[off + j] := by rw [HA.out.cell, List.getElem?_eq_getElem hlt]
      have hf : wr.frozen? ⟨g, off + j, none⟩ = false := HA.out.frozen _
      go_wp2
      refine ⟨⟨j, m / 256, cs'.set (off + j) (.int .u8 (m % 256 : Nat)), by omega, by omega, int_eq (by omega), rfl, ?_, by simp [hcl], HP.out, only_trans HO.out (only_set wr g _ _)⟩, by simp [intOf]⟩
      exact HA.out.set_ _ _

theorem take_snoc (s : ByteArray) (k : Nat) (h : k < s.size) : s.data.toList.take (k + 1) = s.data.toList.take k ++ [s[k]] := by
  rw [List.take_succ_eq_append_getElem (by simpa using h)]; rfl

set_option maxHeartbeats 1000000 in
theorem get_any (s : ByteArray) (w : World) (hs : s.size ≤ 4) :
    Calls Tryz.prog 27 #[.string s] w fun e w' => e = .returned (.int .u32 (numL s.data.toList : Nat)) ∧ w = w' := by
  go_enter Tryz.func27, Tryz.ntmps27
  go_wp2
  go_loop [2, 6] (fun n i => ∃ k : Nat, k ≤ s.size ∧ i = .int .i64 k ∧ n = .int .u32 (numL (s.data.toList.take k) : Nat)) (fun _ i => s.size - (intOf i).toNat)
  case atStart => exact ⟨0, Nat.zero_le _, rfl, rfl⟩
  case round =>
    obtain ⟨k, hk, rfl, rfl⟩ := hrel
    obtain ⟨m, hm⟩ : ∃ m, numL (s.data.toList.take k) = m := ⟨_, rfl⟩
    have hlt1 : numL (s.data.toList.take k) < 256 ^ k := by
      have := numL_lt (s.data.toList.take k)
      refine Nat.lt_of_lt_of_le this (Nat.pow_le_pow_right (by omega) (by rw [List.length_take]; omega))
    rw [hm] at hlt1 ⊢
    by_cases hlt : k < s.size
    · have hm24 : m < 16777216 := Nat.lt_of_lt_of_le hlt1 (Nat.pow_le_pow_right (n := 256) (by omega) (by omega : k ≤ 3))
      have HS : Hid (numL (s.data.toList.take (k + 1)) = m * 256 + s[k].toNat) := by
        rw [take_snoc s k hlt, numL_snoc, hm]; rfl
      clear hm hlt1
      have hb := s[k].toNat_lt
      have ho : bits .or .u32 ((m : Int) * 256) (s[k].toNat : Int) = ((m * 256 + s[k].toNat : Nat) : Int) := by
        have := u32_or_nat (m * 256) s[k].toNat (by omega) (by omega)
        rw [nat_join 8 _ _ (by omega) (by omega)] at this
        simpa using this
      go_wp2
      exact ⟨⟨k + 1, by omega, int_eq (by omega), int_eq (by rw [HS.out]; omega)⟩, by simp [intOf]; omega⟩
    · go_wp2
      go_ret
      exact ⟨ret_int (by rw [← hm, List.take_of_length_le (by simp; omega)]), rfl⟩

end Go.Proofs.YtbbkinldfpphdaaGreatDoor
