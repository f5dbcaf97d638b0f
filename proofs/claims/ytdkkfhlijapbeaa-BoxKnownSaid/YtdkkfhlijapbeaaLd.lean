/- The document's bytes of a number. -/
import Derived.Test.YtdkkfhlijapbeaaHd
import Derived.Laws.AppendOwn
import Derived.OwnWalk
import Derived.WideLaws
namespace Go.Proofs.Ytdkkfhlijapbeaa
open Go.RowKit Pl

theorem own_str {P : Program} {w : World} {base n : Nat} {e' src dst e : TypeId} {v : Value} {l : List UInt8} (hs : P.underlying src = some (.slice e)) (he : P.underlying e = some (.int .u8)) (hd : P.underlying dst = some .string)
    (h : w.ownsRow base e' 1 v n (cellsOf l)) : (convert src dst v).run P w = .ok (.string ⟨l.toArray⟩) w := by
  have hl : l.length = n := by have := h.1; simp [cellsOf] at this; exact this
  rcases h.2 with ⟨rfl, rfl⟩ | ⟨g, cap, cur, rfl, _⟩
  · obtain rfl : l = [] := List.eq_nil_of_length_eq_zero hl
    exact run_convert_bytes_nil w src e hs he 0 0 dst hd
  · rw [← strOf_bytes]
    refine run_convert_bytes_arg w src e hs he g 0 n cap (l.map fun b => (b.toNat : Int)) (by simp [hl]) (fun i hi => ?_) dst hd
    have hc := h.cells (g := g) rfl i (.int .u8 ((l.map fun b => (b.toNat : Int)).getD i 0)) (by simp [cellsOf, List.getElem?_eq_getElem (show i < l.length by omega), List.getD_eq_getElem?_getD])
    have ha : (⟨g, 0, none⟩ : Addr).add i = ⟨g, 0 + i, none⟩ := by unfold Addr.add; split <;> simp_all
    rwa [ha] at hc

theorem own_conv {w : World} {base n : Nat} {e' : TypeId} {v : Value} {l : List UInt8} (h : w.ownsRow base e' 1 v n (cellsOf l)) :
    (convert 24 9 v).run Try.prog w = .ok (.string ⟨l.toArray⟩) w :=
  own_str Try.underlying24 Try.underlying5 Try.underlying9 h

theorem info_u8 : (Try.prog.info? 5).map (fun i => (i.zero, i.size, i.bytes)) = some (some (.int .u8 0), 1, 1) := by kernel_rfl

set_option maxHeartbeats 2000000 in
theorem laid_any (n k : Nat) (w : World) (_hn : n < 18446744073709551616) (hk : k ≤ 8) :
    Calls Try.prog 22 #[.int .u64 n, .int .i64 k] w fun e w' => e = .returned (.string ⟨(beL k n).toArray⟩) ∧ Below w.heap.size w w' := by
  obtain ⟨i0, hi, hz0, hz1, hz2⟩ := info_parts info_u8
  go_enter Try.func22, Try.ntmps22
  go_wp2
  go_loopw [5, 6] (fun out i wr => ∃ j : Nat, j ≤ k ∧ i = .int .i64 ((j : Int) - 1) ∧ Hid (wr.ownsRow w.heap.size 5 1 out (k - j) (cellsOf (beL (k - j) (n / 256 ^ j)))) ∧ Hid (Below w.heap.size w wr)) (fun _ i _ => (intOf i + 1).toNat)
  case atStart => exact ⟨k, Nat.le_refl _, rfl, by rw [Nat.sub_self]; exact World.ownsRow_nil _ _ _ _, Below.refl _ _⟩
  case round =>
    obtain ⟨j, hj, rfl, HO, HB⟩ := hrel
    cases j with
    | zero =>
      have hcv := own_conv HO.out
      go_wp2
      go_ret
      exact ⟨by simp, HB.out⟩
    | succ j =>
      have e : (((j + 1 : Nat) : Int) - 1) = (j : Int) := by omega
      rw [e]
      have hj8 : j < 8 := by omega
      have hv : (n : Int) / 2 ^ (8 * j) % 256 = ((UInt8.ofNat (n / 256 ^ j)).toNat : Int) := by
        rw [Int.pow_mul, UInt8.toNat_ofNat', Int.natCast_emod, Int.natCast_ediv, Int.natCast_pow]
        rfl
      have hl : beL (k - j) (n / 256 ^ j) = beL (k - (j + 1)) (n / 256 ^ (j + 1)) ++ [UInt8.ofNat (n / 256 ^ j)] := by
        rw [show k - j = (k - (j + 1)) + 1 by omega, beL, Nat.div_div_eq_div_mul, Nat.pow_succ]
      have HV := Lib.hid hv
      have HL := Lib.hid hl
      clear hv hl
      go_wp2_with (at_builtin; refine wpList_append_own _ rfl _ _ 24 rfl w.heap.size 5 i0 (.int .u8 0) 1 1 Try.underlying24 hi hz0 hz1 hz2 rfl (by decide) _ _ _ rfl (HO.out.alloc _) ⟨wr.heap.size, 0, none⟩ 1 1 [.int .u8 ((n : Int) / 2 ^ (8 * j) % 256)] rfl rfl ?c1 ?c2 ?c3 ?c4 ?c5 ?_)
      case c1 =>
        intro j' u hu
        cases j' with
        | zero => simp at hu; subst hu; exact (At.of_new wr _ _).cell 0
        | succ _ => simp at hu
      case c2 => intro u hu; simp at hu; subst hu; rfl
      case c3 => exact (by simp [maxLen]; omega)
      case c4 => omega
      case c5 => have := HB.out.size; simp; omega
      intro v' w1 hown' hgrow _
      go_wp2
      refine ⟨⟨j, by omega, rfl, ?_, ?_⟩, by simp [intOf]⟩
      · show w1.ownsRow _ _ _ _ _ _
        rw [HL.out, show k - j = k - (j + 1) + 1 by omega, cellsOf, List.map_append, ← cellsOf]
        rw [HV.out] at hown'
        exact hown'
      · exact (HB.out.alloc HB.out.size _).grown hgrow (by have := HB.out.size; simp; omega) (fun k hk => (HO.out.lt k hk).1)
end Go.Proofs.Ytdkkfhlijapbeaa
