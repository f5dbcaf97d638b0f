/- opt.All of an area that holds none of our options, walked. -/
import Derived.Test.YtbbkinldfpphdaaGreatDoorSr
import Derived.Test.YtbbkinldfpphdaaGreatDoorAs
import Derived.Test.YtbbkinldfpphdaaGreatDoorA3
import Derived.WalkMore
namespace Go.Proofs.YtbbkinldfpphdaaGreatDoor
open Go.RowKit Pl Go.Shelf

/-- What errors.errorType holds. -/
abbrev errT : Value := .iface 164 (.agg #[.pointer (some ⟨2, 99, none⟩)])

set_option maxRecDepth 20000 in
set_option maxHeartbeats 4000000 in
theorem all_none (s : ByteArray) (xs : List It) (w : World) (hs : s.size ≤ 9223372036854775807) (h : walkR s = (xs, 0)) (hk : ∀ x ∈ xs, ¬ x.1 = 30) (hg : w.cell? ⟨0, 0, none⟩ = some errT) :
    Calls Tryz.prog 11 #[.string s] w fun e w' => e = .returned (.tuple #[.slice none 0 0, .int .i64 0]) ∧ Below w.heap.size w w' := by
  have HW : Hid (∀ w, Calls Tryz.prog 6 #[.string s] w fun e w' => ∃ v, e = .returned (.tuple #[v, .int .i64 0]) ∧ Items w' v xs ∧ Below w.heap.size w w') :=
    fun w => (walk_any s w hs).mono (fun e w' he => by obtain ⟨v, h1, h2, h3⟩ := he; rw [h] at h1 h2; exact ⟨v, h1, h2, h3⟩)
  have hlx : xs.length ≤ 40 := by have := walkR_length s; rw [h] at this; exact this
  have HK := Lib.hid hk
  have HG := Lib.hid hg
  have hlt0 : 0 < w.heap.size := block_lt_of_cell hg
  clear hk hg h
  go_enter Tryz.func11, Tryz.ntmps11
  go_wp2_with fail
  go_step3
  go_wp2_with fail
  refine (HW.out _).mono ?_
  rintro e w1 ⟨v, rfl, hI, hb⟩
  have HB1 := Lib.hid hb
  obtain ⟨b, c, rfl, hc⟩ : ∃ b c, v = .slice b xs.length c ∧ ∀ i x, xs[i]? = some x → ∃ g, b = some ⟨g, 0, none⟩ ∧ w1.cell? ⟨g, i * 2, none⟩ = some (.int .i64 x.1) ∧ w1.cell? ⟨g, i * 2 + 1, none⟩ = some (.string x.2) := by
    rcases hI with ⟨rfl, rfl⟩ | ⟨g, cap, rfl, hc⟩
    · exact ⟨_, _, rfl, fun i x hx => by simp at hx⟩
    · exact ⟨_, _, rfl, fun i x hx => ⟨g, rfl, hc i x hx⟩⟩
  have HC := Lib.hid hc
  obtain ⟨n, en⟩ : ∃ n, xs.length = n := ⟨_, rfl⟩
  rw [en] at hlx ⊢
  have HN := Lib.hid en
  have hw1 : w.heap.size ≤ w1.heap.size := hb.size
  clear hb hI hc en HW
  obtain ⟨W1, hW1⟩ : ∃ W1, w1.alloc (.cells #[.int .i64 0] 32) = W1 := ⟨_, rfl⟩
  have hE : At W1 w1.heap.size 32 [.int .i64 0] := by rw [← hW1]; exact At.of_new _ _ _
  have hB : Below w.heap.size w W1 := by rw [← hW1]; exact HB1.out.alloc HB1.out.size _
  have hBx : Below w1.heap.size w1 W1 := by rw [← hW1]; exact (Below.refl _ _).alloc (Nat.le_refl _) _
  have HE := Lib.hid hE
  have HB := Lib.hid hB
  have HBx := Lib.hid hBx
  clear hE hB hBx
  go_wp2_with fail
  go_step3
  clear hW1
  go_wp2_with fail
  go_loopw [2, 20] (fun l i wr => ∃ m : Nat, m ≤ n ∧ i = .int .i64 m ∧ l = .slice none 0 0 ∧ Hid (At wr w1.heap.size 32 [.int .i64 0]) ∧ Hid (Below w1.heap.size w1 wr)) (fun _ i _ => n - (intOf i).toNat)
  case atStart => exact ⟨0, Nat.zero_le _, rfl, rfl, HE, HBx⟩
  case round =>
    clear HE HBx HB
    obtain ⟨m, hm, rfl, rfl, HE, HBr⟩ := hrel
    by_cases hlt : m < n
    · have hml : m < xs.length := by rw [HN.out]; exact hlt
      obtain ⟨x, hx⟩ : ∃ x, xs[m]? = some x := ⟨_, List.getElem?_eq_getElem hml⟩
      obtain ⟨kind, body⟩ := x
      obtain ⟨g, rfl, k1, k2⟩ := HC.out m _ hx
      have c1 : wr.cell? ⟨g, m * 2, none⟩ = some (.int .i64 kind) := (HBr.out.cell (p := ⟨g, m * 2, none⟩) (block_lt_of_cell k1)).trans k1
      have c2 : wr.cell? ⟨g, m * 2 + 1, none⟩ = some (.string body) := (HBr.out.cell (p := ⟨g, m * 2 + 1, none⟩) (block_lt_of_cell k2)).trans k2
      have hk : ¬ kind = 30 := HK.out _ (List.mem_of_getElem? hx)
      have HRD := Lib.hid (fun w => read_kind kind body w hk)
      have hl1 : w1.heap.size < wr.heap.size := HE.out.lt
      clear k1 k2 hx hk
      go_upto_region 8 with fail
      obtain ⟨W2, hW2⟩ : ∃ W2, wr.alloc (.cells #[.int .i64 kind, .string body] 36) = W2 := ⟨_, rfl⟩
      rw [hW2]
      have hI2 : At W2 wr.heap.size 36 [.int .i64 kind, .string body] := by rw [← hW2]; exact At.of_new _ _ _
      have hE2 : At W2 w1.heap.size 32 [.int .i64 0] := by rw [← hW2]; exact HE.out.alloc _
      have hB2 : Below w1.heap.size w1 W2 := by rw [← hW2]; exact HBr.out.alloc HBr.out.size _
      have i0 := hI2.cell 0
      have i1 := hI2.cell 1
      simp only [List.getElem?_cons_zero, List.getElem?_cons_succ] at i0 i1
      have HE2 := Lib.hid hE2
      have HB2 := Lib.hid hB2
      have hl2 : w1.heap.size < W2.heap.size := hE2.lt
      clear hW2 c1 c2 hI2 hE2 hB2 HE HBr
      refine wp_region_lit ?_
      refine wpList_plain rfl fun K hK => ?_
      go_simp
      refine hK _ _ ?_
      clear hK K
      refine wpList_plain rfl fun K hK => ?_
      go_simp
      refine (HRD.out _).mono ?_
      rintro e w3 ⟨rfl, hb⟩
      refine hK _ _ ?_
      clear hK K
      have HE3 := Lib.hid (HE2.out.kept hb)
      have HB3 := Lib.hid (HB2.out.trans (hb.mono HB2.out.size))
      have hl3 : w1.heap.size < w3.heap.size := Nat.lt_of_lt_of_le hl2 hb.size
      clear hb HE2 HB2 i0 i1 HRD
      iterate 3
        refine wpList_plain rfl fun K hK => ?_
        go_simp
        refine hK _ _ ?_
        clear hK K
      refine wpList_plain rfl fun K hK => ?_
      go_simp
      refine hK _ _ ?_
      clear hK K
      obtain ⟨W4, hW4⟩ : ∃ W4, w3.alloc (.cells optZ.toArray 97) = W4 := ⟨_, rfl⟩
      rw [show w3.alloc (.cells _ 97) = W4 from hW4]
      have hO4 : At W4 w3.heap.size 97 optZ := by rw [← hW4]; exact At.of_new _ _ _
      have hE4 : At W4 w1.heap.size 32 [.int .i64 0] := by rw [← hW4]; exact HE3.out.alloc _
      have hB4 : Below w1.heap.size w1 W4 := by rw [← hW4]; exact HB3.out.alloc HB3.out.size _
      have HT := Lib.hid (show W4.there w3.heap.size 0 optZ.toArray.size from hO4.there (Nat.le_refl _))
      obtain ⟨hO5, hg5⟩ := hO4.setAll (xs := optZ) rfl
      have hE5 := hE4.grown hg5 (by intro e; have := Option.some.inj e; omega)
      have hB5 := below_only hB4 hg5 hB4.size (Nat.le_of_lt hl3)
      refine wpList_store_mid rfl _ _ _ rfl w3.heap.size 0 optZ.toArray rfl rfl HT.out optZ_info optZ_one ?_
      rw [show optZ.toArray.toList = optZ from rfl]
      obtain ⟨W5, hW5⟩ : ∃ W5, W4.setCells w3.heap.size 0 optZ = W5 := ⟨_, rfl⟩
      rw [hW5] at hE5 hB5 ⊢
      have HE5 := Lib.hid hE5
      have HB5 := Lib.hid hB5
      clear hW5 hO5 hg5 hO4 hE4 hB4 hW4 HT hE5 hB5 HE3 HB3
      refine wpList_plain rfl fun K hK => ?_
      go_simp
      refine hK _ _ ?_
      clear hK K
      have hgw : W5.cell? ⟨0, 0, none⟩ = some errT := ((HB1.out.trans (HB5.out.mono HB1.out.size)).cell (p := ⟨0, 0, none⟩) hlt0).trans HG.out
      have HAS := Lib.hid (as_hit 7 ⟨w1.heap.size, 0, none⟩ (.int .i64 0) W5 hgw (HE5.out.cell 0) (HE5.out.frozen 0))
      clear hgw
      go_wp2_with fail
      refine HAS.out.mono ?_
      rintro e w6 ⟨rfl, hw6⟩
      have hE6 : At w6 w1.heap.size 32 [.int .i64 7] := by
        rw [hw6]; exact (((((HE5.out.alloc _).alloc _).alloc _).alloc _).set_ 0 (.int .i64 7))
      have hB6 : Below w1.heap.size w1 w6 := by
        rw [hw6]
        have h0 := HB5.out.size
        exact ((((HB5.out.alloc h0 _).alloc (by simp; omega) _).alloc (by simp; omega) _).alloc (by simp; omega) _).setCell (p := ⟨w1.heap.size, 0, none⟩) (Nat.le_refl _) _
      have e0 := hE6.cell 0
      have f0 := hE6.frozen 0
      simp only [List.getElem?_cons_zero] at e0
      have HE7 := Lib.hid (hE6.set_ 0 (.int .i64 0))
      have HB7 := Lib.hid (hB6.setCell (p := ⟨w1.heap.size, 0, none⟩) (Nat.le_refl _) (.int .i64 0))
      clear hw6 hE6 hB6 HE5 HB5 HAS
      go_wp2_with fail
      exact ⟨⟨m + 1, by omega, int_eq (by omega), rfl, HE7, HB7⟩, by simp [intOf]; omega⟩
    · have e0 := HE.out.cell 0
      simp only [List.getElem?_cons_zero] at e0
      have HBw := Lib.hid (HB1.out.trans (HBr.out.mono HB1.out.size))
      go_wp2_with fail
      rw [Exit.noGoto_ret]
      go_ret2
      exact ⟨rfl, HBw.out⟩
end Go.Proofs.YtbbkinldfpphdaaGreatDoor
