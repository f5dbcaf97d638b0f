/- BoxStrips, walked. -/
import Derived.Test.YtbbkinldfpphdaaGreatDoorG2
import Derived.Test.YtbbkinldfpphdaaGreatDoorMt
import Derived.Test.YtbbkinldfpphdaaGreatDoorSo
import Derived.Test.YtbbkinldfpphdaaGreatDoorRi
import Derived.Deep.QuietTactic
import Derived.BigQuiet
namespace Go.Proofs.YtbbkinldfpphdaaGreatDoor
open Go.RowKit Pl Go.Shelf
attribute [local go_sem ↓] Go.wp_at_zero Go.wp_at_succ

theorem ok_le (x : Sg) (h : x.Ok) : x.bytes.size ≤ 9223372036854775807 := by rw [bytes_size x]; have := h.h5; have := h.h7; omega
theorem strip_of (x : Sg) (hx : x.Ok) (l : List It) (hm : ∀ y ∈ l, mayI y) (hl : (itemsL l).length ≤ 40) (ha : x.area = areaOf l) : stripR x.bytes = (({ x with area := areaOf (keeps l) } : Sg).bytes, 0) := by
  have hr := read_bytes x hx
  unfold stripR
  rw [if_neg (by rw [hr.2]; decide), hr.1, ha, walk_area l hm hl, if_neg (by simp), bare_area l hm hl]

theorem cellsIt_take (l : List It) (k : Nat) : (cellsIt l).take (k * 2) = cellsIt (l.take k) := by
  induction l generalizing k with
  | nil => simp [cellsIt]
  | cons y l ih =>
    cases k with
    | zero => simp [cellsIt]
    | succ k =>
      rw [show (k + 1) * 2 = k * 2 + 1 + 1 by omega]
      have := ih k
      simp only [cellsIt, List.flatMap_cons, List.cons_append, List.nil_append, List.take_succ_cons] at this ⊢
      rw [this]
theorem cellsIt_drop (l : List It) (k : Nat) : (cellsIt l).drop (k * 2) = cellsIt (l.drop k) := by
  induction l generalizing k with
  | nil => simp [cellsIt]
  | cons y l ih =>
    cases k with
    | zero => simp [cellsIt]
    | succ k =>
      rw [show (k + 1) * 2 = k * 2 + 1 + 1 by omega]
      have := ih k
      simp only [cellsIt, List.flatMap_cons, List.cons_append, List.nil_append, List.drop_succ_cons] at this ⊢
      rw [this]
theorem cellsIt_len (l : List It) : (cellsIt l).length = l.length * 2 := by
  induction l with
  | nil => rfl
  | cons y l ih => simp [cellsIt] at ih ⊢; omega
theorem cellsIt_append (a b : List It) : cellsIt (a ++ b) = cellsIt a ++ cellsIt b := by unfold cellsIt; rw [List.flatMap_append]
theorem cellsIt_one (l : List It) : ∀ u ∈ cellsIt l, u.oneCell' = true := by
  intro u hu
  unfold cellsIt at hu
  obtain ⟨x, _, hx⟩ := List.mem_flatMap.1 hu
  simp at hx
  rcases hx with rfl | rfl <;> rfl
theorem items_row {w : World} {g : Nat} {l : List It} (h : ∀ i x, l[i]? = some x → w.cell? ⟨g, i * 2, none⟩ = some (.int .i64 x.1) ∧ w.cell? ⟨g, i * 2 + 1, none⟩ = some (.string x.2)) :
    ∀ j u, (cellsIt l)[j]? = some u → w.cell? ⟨g, j, none⟩ = some u := by
  intro j u hu
  have hj : j < (cellsIt l).length := (List.getElem?_eq_some_iff.1 hu).1
  rw [cellsIt_len] at hj
  obtain ⟨i, r, rfl, hr⟩ : ∃ i r, j = i * 2 + r ∧ r < 2 := ⟨j / 2, j % 2, by omega, by omega⟩
  have hi : i < l.length := by omega
  obtain ⟨k1, k2⟩ := cellsIt_at l i l[i] (List.getElem?_eq_getElem hi)
  obtain ⟨c1, c2⟩ := h i l[i] (List.getElem?_eq_getElem hi)
  obtain rfl | rfl : r = 0 ∨ r = 1 := by omega
  · rw [Nat.add_zero] at hu ⊢
    rw [k1] at hu; rw [c1, ← hu]
  · rw [k2] at hu; rw [c2, ← hu]
theorem add_off (g o j : Nat) : (⟨g, o, none⟩ : Addr).add j = ⟨g, o + j, none⟩ := by cases j <;> simp [Addr.add]
/-- The two parts of a slice of items, as sources. -/
theorem items_src1 {w : World} {g : Nat} {l : List It} (h : ∀ i x, l[i]? = some x → w.cell? ⟨g, i * 2, none⟩ = some (.int .i64 x.1) ∧ w.cell? ⟨g, i * 2 + 1, none⟩ = some (.string x.2)) (k c : Nat) (hk : k ≤ l.length) :
    Src w (.slice (some ⟨g, 0, none⟩) k c) k 2 (cellsIt (l.take k)) := by
  refine .inr ⟨_, _, rfl, ?_, cellsIt_one _, fun j u hu => ?_⟩
  · rw [cellsIt_len, List.length_take]; omega
  · rw [add_off, Nat.zero_add]
    rw [← cellsIt_take] at hu
    have hj := (List.getElem?_eq_some_iff.1 hu).1
    rw [List.getElem?_take] at hu
    split at hu
    · exact items_row h j u hu
    · cases hu
theorem items_src2 {w : World} {g : Nat} {l : List It} (h : ∀ i x, l[i]? = some x → w.cell? ⟨g, i * 2, none⟩ = some (.int .i64 x.1) ∧ w.cell? ⟨g, i * 2 + 1, none⟩ = some (.string x.2)) (k o c : Nat) (hk : k ≤ l.length) (ho : k < l.length → o = k * 2) :
    Src w (.slice (some ⟨g, o, none⟩) (l.length - k) c) (l.length - k) 2 (cellsIt (l.drop k)) := by
  refine .inr ⟨_, _, rfl, ?_, cellsIt_one _, fun j u hu => ?_⟩
  · rw [cellsIt_len, List.length_drop]
  · rw [add_off]
    have hj := (List.getElem?_eq_some_iff.1 hu).1
    rw [cellsIt_len, List.length_drop] at hj
    rw [ho (by omega)]
    rw [← cellsIt_drop, List.getElem?_drop] at hu
    exact items_row h _ u hu

/-- The cells of items behind an address. -/
def CellsAt (w : World) (b : Option Addr) (l : List It) : Prop := ∀ i x, l[i]? = some x → ∃ g, b = some ⟨g, 0, none⟩ ∧ w.cell? ⟨g, i * 2, none⟩ = some (.int .i64 x.1) ∧ w.cell? ⟨g, i * 2 + 1, none⟩ = some (.string x.2)
theorem CellsAt.kept {w w' : World} {b : Option Addr} {l : List It} (h : CellsAt w b l) (hb : Below w.heap.size w w') : CellsAt w' b l := fun i x hx => by
  obtain ⟨g, h1, h2, h3⟩ := h i x hx
  exact ⟨g, h1, (hb.cell (p := ⟨g, i * 2, none⟩) (block_lt_of_cell h2)).trans h2, (hb.cell (p := ⟨g, i * 2 + 1, none⟩) (block_lt_of_cell h3)).trans h3⟩

set_option maxRecDepth 100000 in
set_option maxHeartbeats 8000000 in
theorem boxStrips_any (d : Dr) (ours : Nat) (w : World) (hd : d.Ok w) (_ho : ours < 256) (hg : w.cell? ⟨0, 0, none⟩ = some errT) :
    Calls Tryz.prog 3 #[d.v, .int .u8 ours] w fun e w' => e = .returned (.bool true) ∧ Below w.heap.size w w' := by
  have hDR : ∀ w', Below w.heap.size w w' → Calls Tryz.prog 5 #[d.v] w' fun e w'' => e = .returned (drSeg d).v ∧ Below w'.heap.size w' w'' := fun w' hb => draft_any d w' (hd.kept hb)
  obtain ⟨hxo, hx100⟩ := drSeg_ok d hd
  obtain ⟨kb, kn, kc, hkv⟩ := hd.form
  have hm := drItems_may d
  have har : (drSeg d).area = areaOf (drItems d) := by
    show (layI (drItems d)).1 = _
    rw [layI_good _ hm.1 hm.2]; rfl
  have hln : (drItems d).length ≤ 4 := by unfold drItems; rw [List.length_map, List.length_take]; omega
  obtain ⟨l, el⟩ : ∃ l, drItems d = l := ⟨_, rfl⟩
  obtain ⟨x, ex⟩ : ∃ x, drSeg d = x := ⟨_, rfl⟩
  rw [el] at hm har hln
  rw [ex] at hDR hxo hx100 har
  obtain ⟨hm1, hm2⟩ := hm
  obtain ⟨src, dst, seq, ack, syn, ackOn, fin, rst, win, area, data⟩ := x
  simp only at har hx100
  have HDR := Lib.hid hDR
  have HG := Lib.hid hg
  have hlt0 : 0 < w.heap.size := block_lt_of_cell hg
  have HWK : Hid (∀ w, Calls Tryz.prog 6 #[.string area] w fun e w' => ∃ v, e = .returned (.tuple #[v, .int .i64 0]) ∧ Items w' v l ∧ Below w.heap.size w w' ∧ CapOk v) :=
    fun w => (walk_full area w (by have := hxo.h5; simp only at this; omega)).mono (fun e w' he => by obtain ⟨v, h1, h2, h3⟩ := he; rw [har, walk_area l hm1 hm2] at h1 h2; exact ⟨v, h1, h2, h3⟩)
  have HW := Lib.hid works_yes
  have HM := Lib.hid (And.intro hm1 (And.intro hm2 har))
  have HXO := Lib.hid hxo
  clear hDR hg ex el hm1 hm2 har hxo
  unfold Dr.v at HDR ⊢
  rw [hkv] at HDR ⊢
  clear hkv
  go_enter Tryz.func3, Tryz.ntmps3
  go_wp2_with fail
  refine (HW.out _).mono ?_
  rintro e w1 ⟨rfl, hb⟩
  have B1 := Lib.hid (allocThen (Below.refl _ w) hb)
  have hD1 : At w1 w.heap.size 26 [.int .u16 d.src, .int .u16 d.dst, .int .u16 d.win, .int .u32 d.seq, .int .u32 d.ack, .int .u8 d.flags, .slice kb kn kc, .string d.body, .string d.data] := (At.of_new w _ _).kept hb
  obtain ⟨d0, d1, d2, d3, d4, d5, d6, d7, d8⟩ := hD1.cells9
  clear hb hD1
  go_wp2_with fail
  refine (HDR.out _ B1.out).mono ?_
  unfold Sg.v
  rintro e w2 ⟨rfl, hb⟩
  have B2 := Lib.hid (B1.out.trans (hb.mono B1.out.size))
  clear hb d0 d1 d2 d3 d4 d5 d6 d7 d8 B1 HDR
  go_wp2_with fail
  refine (HWK.out _).mono ?_
  rintro e w3 ⟨v, rfl, hI, hb, hcap⟩
  have HX3 := Lib.hid ((At.of_new w2 29 #[.int .i64 0, .int .u16 src, .int .u16 dst, .int .u32 seq, .int .u32 ack, .bool syn, .bool ackOn, .bool fin, .bool rst, .int .u16 win, .string area, .string data]).kept hb)
  have B3 := Lib.hid (allocThen B2.out hb)
  have hw2 : w.heap.size ≤ w2.heap.size := B2.out.size
  obtain ⟨b, c, rfl, hc⟩ : ∃ b c, v = .slice b l.length c ∧ ∀ i x, l[i]? = some x → ∃ g, b = some ⟨g, 0, none⟩ ∧ w3.cell? ⟨g, i * 2, none⟩ = some (.int .i64 x.1) ∧ w3.cell? ⟨g, i * 2 + 1, none⟩ = some (.string x.2) := by
    rcases hI with ⟨rfl, rfl⟩ | ⟨g, cap, rfl, hc⟩
    · exact ⟨_, _, rfl, fun i x hx => by simp at hx⟩
    · exact ⟨_, _, rfl, fun i x hx => ⟨g, rfl, hc i x hx⟩⟩
  have HC := Lib.hid hc
  have HBG : Hid ((b = none ∧ l = [] ∧ c = 0) ∨ ∃ g, b = some ⟨g, 0, none⟩ ∧ ∀ i x, l[i]? = some x → w3.cell? ⟨g, i * 2, none⟩ = some (.int .i64 x.1) ∧ w3.cell? ⟨g, i * 2 + 1, none⟩ = some (.string x.2)) := by
    rcases hI with ⟨h2, h1⟩ | ⟨g, cap, h1, h2⟩
    · injection h1 with e1 e2 e3
      exact .inl ⟨e1, h2, e3⟩
    · injection h1 with e1 e2 e3
      exact .inr ⟨g, e1, h2⟩
  have hcn : l.length ≤ c := hcap _ _ _ rfl
  obtain ⟨k, ek⟩ : ∃ k, ours % (l.length + 1) = k := ⟨_, rfl⟩
  have hkn : k ≤ l.length := by have := Nat.mod_lt ours (show 0 < l.length + 1 by omega); omega
  obtain ⟨n, en⟩ : ∃ n, l.length = n := ⟨_, rfl⟩
  rw [en] at hln hcn hkn ek ⊢
  have c0 : IntKind.i64.wrap (ours : Int) = (ours : Int) := IntWalk.i64_in _ (by omega)
  have c1 : IntKind.i64.wrap ((n : Int) + 1) = (n : Int) + 1 := IntWalk.i64_in _ (by omega)
  have c2 : (ours : Int).tmod ((n : Int) + 1) = (k : Int) := by rw [Int.tmod_eq_emod_of_nonneg (by omega), ← ek]; rfl
  have c3 : (ours : Int) % ((n : Int) + 1) = (k : Int) := by rw [← ek]; rfl
  have c4 : ¬ (n : Int) + 1 = 0 := by omega
  have HN := Lib.hid (And.intro en ek)
  clear hb hc hI en ek B2 hcap
  go_upto_region 9 with fail
  obtain ⟨W4, hW4⟩ : ∃ W4, w3.alloc (.cells #[.int .i64 30, .string ⟨#[81]⟩] 36) = W4 := ⟨_, rfl⟩
  rw [hW4]
  have hP4 : At W4 w3.heap.size 36 [.int .i64 30, .string ⟨#[81]⟩] := by rw [← hW4]; exact At.of_new _ _ _
  have hB4 : Below w3.heap.size w3 W4 := by rw [← hW4]; exact (Below.refl _ _).alloc (Nat.le_refl _) _
  have HP4 := Lib.hid hP4
  have HB4 := Lib.hid hB4
  have HX4 := Lib.hid (HX3.out.kept hB4)
  have HC4 : Hid (∀ i x, l[i]? = some x → ∃ g, b = some ⟨g, 0, none⟩ ∧ W4.cell? ⟨g, i * 2, none⟩ = some (.int .i64 x.1) ∧ W4.cell? ⟨g, i * 2 + 1, none⟩ = some (.string x.2)) := fun i x hx => by
    obtain ⟨g, h1, h2, h3⟩ := HC.out i x hx
    exact ⟨g, h1, (hB4.cell (p := ⟨g, i * 2, none⟩) (block_lt_of_cell h2)).trans h2, (hB4.cell (p := ⟨g, i * 2 + 1, none⟩) (block_lt_of_cell h3)).trans h3⟩
  clear hW4 hP4 hB4 c0 c1 c2 c3 c4 HX3 HC
  obtain ⟨j0, hi, hz0, hz1, hz2⟩ := info_parts info_item
  go_cut [10] from 46 to 57 (fun v w' => Hid (Items w' v (withOurs l k)) ∧ Hid (Below W4.heap.size W4 w'))
  case first =>
    have hS : (fun W => At W w3.heap.size 36 [.int .i64 30, .string ⟨#[81]⟩] ∧ Below W4.heap.size W4 W) W4.drew := ⟨HP4.out.drew, (Below.refl _ _).drew⟩
    rcases HBG.out with ⟨rfl, rfl, rfl⟩ | ⟨g, rfl, hcg⟩
    · obtain rfl : n = 0 := by have := HN.out.1; simpa using this.symm
      obtain rfl : k = 0 := by omega
      have i0 : (0 : Int) ≤ ((0 : Nat) : Int) := by omega
      have HSRC1 : Hid (Src W4 (.slice none 0 0) 0 2 (cellsIt (([] : List It).take 0))) := by
        exact .inl ⟨rfl, rfl, rfl⟩
      have HSRC2 : Hid (Src W4 (.slice none 0 0) (0 - 0) 2 (cellsIt (([] : List It).drop 0))) := by
        exact .inl ⟨rfl, rfl, rfl⟩
      refine wp_region_fork 99 [1, 2, 3, 5, 8, 9, 10] 6 (fun W => At W w3.heap.size 36 [.int .i64 30, .string ⟨#[81]⟩] ∧ Below W4.heap.size W4 W) (by kernel_rfl) (by kernel_rfl) (last_none (by simp)) rfl (by kernel_rfl) (fun _ _ _ _ _ h => h) hS ?_
      iterate 7
        refine walkK_val (v := ?_) rfl (by rfl) (fun w' hS' => ?_) ?_
        rotate_left
        · have s0 := hS'.1.cell 0
          have s1 := hS'.1.cell 1
          simp only [List.getElem?_cons_zero, List.getElem?_cons_succ] at s0 s1
          clear hS'
          go_simp
          exact rfl
        simp only [Act.put, List.setIfInBounds_toArray, List.set_cons_zero, List.set_cons_succ]
      clear hS
      have hlP : w3.heap.size < W4.heap.size := HP4.out.lt
      simp only [walkK]
      refine anyG_step [0, 6] (by kernel_rfl) (by simp) ?_
      intro i hi0
      simp only [List.mem_cons, List.mem_nil_iff, or_false] at hi0
      rcases hi0 with rfl | rfl
      · refine opG_do rfl (by rfl) ?_
        go_simp
        obtain ⟨wA, hwA⟩ : ∃ wA, (W4.alloc (.cells #[] 36)).drew = wA := ⟨_, rfl⟩
        rw [hwA]
        have HSA := Lib.hid (show (At wA w3.heap.size 36 [.int .i64 30, .string ⟨#[81]⟩] ∧ Below W4.heap.size W4 wA) by rw [← hwA]; exact ⟨(HP4.out.alloc _).drew, ((Below.refl _ _).alloc (Nat.le_refl _) _).drew⟩)
        have HOA := Lib.hid (show wA.ownsRow W4.heap.size 36 2 (.slice (some ⟨W4.heap.size, 0, none⟩) 0 0) 0 [] by rw [← hwA]; exact own_empty (Nat.le_refl _) (heap_alloc_new W4 _))
        refine ⟨HSA.out, ?_⟩
        clear hwA
        refine anyG_step [4, 6] (by kernel_rfl) (by simp) ?_
        intro i hi4
        simp only [List.mem_cons, List.mem_nil_iff, or_false] at hi4
        rcases hi4 with rfl | rfl
        · refine opG_do rfl (by rfl) (wp_append_src _ _ _ rfl W4.heap.size 36 j0 (.agg #[.int .i64 0, .string ⟨#[]⟩]) 2 24 Tryz.underlying31 hi hz0 hz1 hz2 rfl (by decide) _ 0 [] rfl HOA.out _ 0 (cellsIt (([] : List It).take 0)) rfl (HSRC1.out.kept HSA.out.2) (by simp only [maxLen]; omega) (by omega) HSA.out.2.size ?_)
          intro y w5 hown5 hgrow5 _
          rw [Nat.zero_add, List.nil_append] at hown5
          have hs5 : (At w5 w3.heap.size 36 [.int .i64 30, .string ⟨#[81]⟩] ∧ Below W4.heap.size W4 w5) := ⟨HSA.out.1.grown hgrow5 (fun e => by have := (HOA.out.lt _ e.symm).1; omega), HSA.out.2.grown hgrow5 HSA.out.2.size (fun k hk => (HOA.out.lt k hk).1)⟩
          have HO5 := Lib.hid hown5
          have HS5 := Lib.hid hs5
          refine ⟨fun _ => hs5, ?_⟩
          clear hown5 hgrow5 hs5 HOA HSA
          simp only [Act.put, List.setIfInBounds_toArray, List.set_cons_zero, List.set_cons_succ]
          refine anyG_step [6] (by kernel_rfl) (by simp) ?_
          intro i hi6
          obtain rfl := List.mem_singleton.1 hi6
          refine opG_do rfl (by rfl) ?_
          go_simp
          obtain ⟨wT, hwT⟩ : ∃ wT, w5.alloc (.cells #[.int .i64 30, .string ⟨#[81]⟩] 36) = wT := ⟨_, rfl⟩
          rw [hwT]
          have HST := Lib.hid (show (At wT w3.heap.size 36 [.int .i64 30, .string ⟨#[81]⟩] ∧ Below W4.heap.size W4 wT) by rw [← hwT]; exact ⟨HS5.out.1.alloc _, HS5.out.2.alloc HS5.out.2.size _⟩)
          have HOT := Lib.hid (show wT.ownsRow _ _ _ _ _ _ by rw [← hwT]; exact HO5.out.alloc _)
          have HGT := Lib.hid (show At wT w5.heap.size 36 [.int .i64 30, .string ⟨#[81]⟩] by rw [← hwT]; exact At.of_new _ _ _)
          refine ⟨HST.out, ?_⟩
          clear hwT HS5 HO5
          refine anyG_step [7] (by kernel_rfl) (by simp) ?_
          intro i hi7
          obtain rfl := List.mem_singleton.1 hi7
          refine opG_do rfl (by rfl) (wp_append_src _ _ _ rfl W4.heap.size 36 j0 (.agg #[.int .i64 0, .string ⟨#[]⟩]) 2 24 Tryz.underlying31 hi hz0 hz1 hz2 rfl (by decide) _ 0 (cellsIt (([] : List It).take 0)) rfl HOT.out _ 1 [Value.int .i64 30, Value.string ⟨#[81]⟩] rfl (.inr ⟨_, _, rfl, rfl, by intro u hu; simp at hu; rcases hu with rfl | rfl <;> rfl, fun j u hu => by rw [add_at]; rw [HGT.out.cell]; exact hu⟩) (by simp only [maxLen]; omega) (by omega) HST.out.2.size ?_)
          intro y7 w7 hown7 hgrow7 _
          have hs7 : (At w7 w3.heap.size 36 [.int .i64 30, .string ⟨#[81]⟩] ∧ Below W4.heap.size W4 w7) := ⟨HST.out.1.grown hgrow7 (fun e => by have := (HOT.out.lt _ e.symm).1; omega), HST.out.2.grown hgrow7 HST.out.2.size (fun k hk => (HOT.out.lt k hk).1)⟩
          have HO7 := Lib.hid hown7
          have HS7 := Lib.hid hs7
          refine ⟨fun _ => hs7, ?_⟩
          clear hown7 hgrow7 hs7 HOT HGT HST
          simp only [Act.put, List.setIfInBounds_toArray, List.set_cons_zero, List.set_cons_succ]
          refine anyG_step [11] (by kernel_rfl) (by simp) ?_
          intro i hi11
          obtain rfl := List.mem_singleton.1 hi11
          refine opG_do rfl (by rfl) (wp_append_src _ _ _ rfl W4.heap.size 36 j0 (.agg #[.int .i64 0, .string ⟨#[]⟩]) 2 24 Tryz.underlying31 hi hz0 hz1 hz2 rfl (by decide) _ (0 + 1) (cellsIt (([] : List It).take 0) ++ [Value.int .i64 30, Value.string ⟨#[81]⟩]) rfl HO7.out _ (0 - 0) (cellsIt (([] : List It).drop 0)) rfl (HSRC2.out.kept HS7.out.2) (by simp only [maxLen]; omega) (by omega) HS7.out.2.size ?_)
          intro y11 w11 hown11 hgrow11 _
          have hs11 : (At w11 w3.heap.size 36 [.int .i64 30, .string ⟨#[81]⟩] ∧ Below W4.heap.size W4 w11) := ⟨HS7.out.1.grown hgrow11 (fun e => by have := (HO7.out.lt _ e.symm).1; omega), HS7.out.2.grown hgrow11 HS7.out.2.size (fun k hk => (HO7.out.lt k hk).1)⟩
          have HO11 := Lib.hid hown11
          have HS11 := Lib.hid hs11
          refine ⟨fun _ => hs11, ?_⟩
          clear hown11 hgrow11 hs11 HO7 HS7
          simp only [Act.put, List.setIfInBounds_toArray, List.set_cons_zero, List.set_cons_succ]
          refine anyG_step [12] (by kernel_rfl) (by simp) ?_
          intro i hi12
          obtain rfl := List.mem_singleton.1 hi12
          refine opG_do rfl (by rfl) ?_
          go_simp
          refine ⟨HS11.out, ?_⟩
          refine anyG_end (by kernel_rfl) ?_
          go_wp2_with fail
          go_meet
          refine ⟨?_, HS11.out.2⟩
          have hown := HO11.out
          have e : cellsIt (([] : List It).take 0) ++ [.int .i64 30, .string ⟨#[81]⟩] ++ cellsIt (([] : List It).drop 0) = cellsIt (withOurs ([] : List It) 0) := by unfold withOurs; rw [cellsIt_append, cellsIt_append]; rfl
          have e2 : (withOurs ([] : List It) 0).length = 0 + 1 + (0 - 0) := by unfold withOurs; rw [List.length_append, List.length_append, List.length_take, List.length_drop, HN.out.1]; simp <;> omega
          rw [e, ← e2] at hown
          exact items_own hown
        · refine opG_do rfl (by rfl) ?_
          go_simp
          obtain ⟨w6, hw6⟩ : ∃ w6, wA.alloc (.cells #[.int .i64 30, .string ⟨#[81]⟩] 36) = w6 := ⟨_, rfl⟩
          rw [hw6]
          have HS6 := Lib.hid (show (At w6 w3.heap.size 36 [.int .i64 30, .string ⟨#[81]⟩] ∧ Below W4.heap.size W4 w6) by rw [← hw6]; exact ⟨HSA.out.1.alloc _, HSA.out.2.alloc HSA.out.2.size _⟩)
          have HO6 := Lib.hid (show w6.ownsRow _ _ _ _ _ _ by rw [← hw6]; exact HOA.out.alloc _)
          have HG6 := Lib.hid (show At w6 wA.heap.size 36 [.int .i64 30, .string ⟨#[81]⟩] by rw [← hw6]; exact At.of_new _ _ _)
          refine ⟨HS6.out, ?_⟩
          clear hw6 HSA
          refine anyG_step [4] (by kernel_rfl) (by simp) ?_
          intro i hi44
          obtain rfl := List.mem_singleton.1 hi44
          refine opG_do rfl (by rfl) (wp_append_src _ _ _ rfl W4.heap.size 36 j0 (.agg #[.int .i64 0, .string ⟨#[]⟩]) 2 24 Tryz.underlying31 hi hz0 hz1 hz2 rfl (by decide) _ 0 [] rfl HO6.out _ 0 (cellsIt (([] : List It).take 0)) rfl (HSRC1.out.kept HS6.out.2) (by simp only [maxLen]; omega) (by omega) HS6.out.2.size ?_)
          intro y wT hownT hgrowT _
          rw [Nat.zero_add, List.nil_append] at hownT
          have hsT : (At wT w3.heap.size 36 [.int .i64 30, .string ⟨#[81]⟩] ∧ Below W4.heap.size W4 wT) := ⟨HS6.out.1.grown hgrowT (fun e => by have := (HO6.out.lt _ e.symm).1; omega), HS6.out.2.grown hgrowT HS6.out.2.size (fun k hk => (HO6.out.lt k hk).1)⟩
          have HGT := Lib.hid (HG6.out.grown hgrowT (fun e => by have := (HOA.out.lt _ e.symm).2; omega))
          have HOT := Lib.hid hownT
          have HST := Lib.hid hsT
          refine ⟨fun _ => hsT, ?_⟩
          clear hownT hgrowT hsT HO6 HS6 HG6 HOA
          simp only [Act.put, List.setIfInBounds_toArray, List.set_cons_zero, List.set_cons_succ]
          refine anyG_step [7] (by kernel_rfl) (by simp) ?_
          intro i hi7
          obtain rfl := List.mem_singleton.1 hi7
          refine opG_do rfl (by rfl) (wp_append_src _ _ _ rfl W4.heap.size 36 j0 (.agg #[.int .i64 0, .string ⟨#[]⟩]) 2 24 Tryz.underlying31 hi hz0 hz1 hz2 rfl (by decide) _ 0 (cellsIt (([] : List It).take 0)) rfl HOT.out _ 1 [Value.int .i64 30, Value.string ⟨#[81]⟩] rfl (.inr ⟨_, _, rfl, rfl, by intro u hu; simp at hu; rcases hu with rfl | rfl <;> rfl, fun j u hu => by rw [add_at]; rw [HGT.out.cell]; exact hu⟩) (by simp only [maxLen]; omega) (by omega) HST.out.2.size ?_)
          intro y7 w7 hown7 hgrow7 _
          have hs7 : (At w7 w3.heap.size 36 [.int .i64 30, .string ⟨#[81]⟩] ∧ Below W4.heap.size W4 w7) := ⟨HST.out.1.grown hgrow7 (fun e => by have := (HOT.out.lt _ e.symm).1; omega), HST.out.2.grown hgrow7 HST.out.2.size (fun k hk => (HOT.out.lt k hk).1)⟩
          have HO7 := Lib.hid hown7
          have HS7 := Lib.hid hs7
          refine ⟨fun _ => hs7, ?_⟩
          clear hown7 hgrow7 hs7 HOT HGT HST
          simp only [Act.put, List.setIfInBounds_toArray, List.set_cons_zero, List.set_cons_succ]
          refine anyG_step [11] (by kernel_rfl) (by simp) ?_
          intro i hi11
          obtain rfl := List.mem_singleton.1 hi11
          refine opG_do rfl (by rfl) (wp_append_src _ _ _ rfl W4.heap.size 36 j0 (.agg #[.int .i64 0, .string ⟨#[]⟩]) 2 24 Tryz.underlying31 hi hz0 hz1 hz2 rfl (by decide) _ (0 + 1) (cellsIt (([] : List It).take 0) ++ [Value.int .i64 30, Value.string ⟨#[81]⟩]) rfl HO7.out _ (0 - 0) (cellsIt (([] : List It).drop 0)) rfl (HSRC2.out.kept HS7.out.2) (by simp only [maxLen]; omega) (by omega) HS7.out.2.size ?_)
          intro y11 w11 hown11 hgrow11 _
          have hs11 : (At w11 w3.heap.size 36 [.int .i64 30, .string ⟨#[81]⟩] ∧ Below W4.heap.size W4 w11) := ⟨HS7.out.1.grown hgrow11 (fun e => by have := (HO7.out.lt _ e.symm).1; omega), HS7.out.2.grown hgrow11 HS7.out.2.size (fun k hk => (HO7.out.lt k hk).1)⟩
          have HO11 := Lib.hid hown11
          have HS11 := Lib.hid hs11
          refine ⟨fun _ => hs11, ?_⟩
          clear hown11 hgrow11 hs11 HO7 HS7
          simp only [Act.put, List.setIfInBounds_toArray, List.set_cons_zero, List.set_cons_succ]
          refine anyG_step [12] (by kernel_rfl) (by simp) ?_
          intro i hi12
          obtain rfl := List.mem_singleton.1 hi12
          refine opG_do rfl (by rfl) ?_
          go_simp
          refine ⟨HS11.out, ?_⟩
          refine anyG_end (by kernel_rfl) ?_
          go_wp2_with fail
          go_meet
          refine ⟨?_, HS11.out.2⟩
          have hown := HO11.out
          have e : cellsIt (([] : List It).take 0) ++ [.int .i64 30, .string ⟨#[81]⟩] ++ cellsIt (([] : List It).drop 0) = cellsIt (withOurs ([] : List It) 0) := by unfold withOurs; rw [cellsIt_append, cellsIt_append]; rfl
          have e2 : (withOurs ([] : List It) 0).length = 0 + 1 + (0 - 0) := by unfold withOurs; rw [List.length_append, List.length_append, List.length_take, List.length_drop, HN.out.1]; simp <;> omega
          rw [e, ← e2] at hown
          exact items_own hown
      · refine opG_do rfl (by rfl) ?_
        go_simp
        obtain ⟨wB, hwB⟩ : ∃ wB, (W4.alloc (.cells #[.int .i64 30, .string ⟨#[81]⟩] 36)).drew = wB := ⟨_, rfl⟩
        rw [hwB]
        have HSB := Lib.hid (show (At wB w3.heap.size 36 [.int .i64 30, .string ⟨#[81]⟩] ∧ Below W4.heap.size W4 wB) by rw [← hwB]; exact ⟨(HP4.out.alloc _).drew, ((Below.refl _ _).alloc (Nat.le_refl _) _).drew⟩)
        have HGB := Lib.hid (show At wB W4.heap.size 36 [.int .i64 30, .string ⟨#[81]⟩] by rw [← hwB]; exact (At.of_new _ _ _).drew)
        refine ⟨HSB.out, ?_⟩
        clear hwB
        refine anyG_step [0] (by kernel_rfl) (by simp) ?_
        intro i hi0
        obtain rfl := List.mem_singleton.1 hi0
        refine opG_do rfl (by rfl) ?_
        go_simp
        obtain ⟨w6, hw6⟩ : ∃ w6, wB.alloc (.cells #[] 36) = w6 := ⟨_, rfl⟩
        rw [hw6]
        have hlB := HGB.out.lt
        have HS6 := Lib.hid (show (At w6 w3.heap.size 36 [.int .i64 30, .string ⟨#[81]⟩] ∧ Below W4.heap.size W4 w6) by rw [← hw6]; exact ⟨HSB.out.1.alloc _, HSB.out.2.alloc HSB.out.2.size _⟩)
        have HO6 := Lib.hid (show w6.ownsRow W4.heap.size 36 2 (.slice (some ⟨wB.heap.size, 0, none⟩) 0 0) 0 [] by rw [← hw6]; exact own_empty (by omega) (heap_alloc_new wB _))
        have HG6 := Lib.hid (show At w6 W4.heap.size 36 [.int .i64 30, .string ⟨#[81]⟩] by rw [← hw6]; exact HGB.out.alloc _)
        refine ⟨HS6.out, ?_⟩
        clear hw6 HSB HGB
        refine anyG_step [4] (by kernel_rfl) (by simp) ?_
        intro i hi44
        obtain rfl := List.mem_singleton.1 hi44
        refine opG_do rfl (by rfl) (wp_append_src _ _ _ rfl W4.heap.size 36 j0 (.agg #[.int .i64 0, .string ⟨#[]⟩]) 2 24 Tryz.underlying31 hi hz0 hz1 hz2 rfl (by decide) _ 0 [] rfl HO6.out _ 0 (cellsIt (([] : List It).take 0)) rfl (HSRC1.out.kept HS6.out.2) (by simp only [maxLen]; omega) (by omega) HS6.out.2.size ?_)
        intro y wT hownT hgrowT _
        rw [Nat.zero_add, List.nil_append] at hownT
        have hsT : (At wT w3.heap.size 36 [.int .i64 30, .string ⟨#[81]⟩] ∧ Below W4.heap.size W4 wT) := ⟨HS6.out.1.grown hgrowT (fun e => by have := (HO6.out.lt _ e.symm).1; omega), HS6.out.2.grown hgrowT HS6.out.2.size (fun k hk => (HO6.out.lt k hk).1)⟩
        have HGT := Lib.hid (HG6.out.grown hgrowT (fun e => by have e2 : W4.heap.size = wB.heap.size := Option.some.inj e; omega))
        have HOT := Lib.hid hownT
        have HST := Lib.hid hsT
        refine ⟨fun _ => hsT, ?_⟩
        clear hownT hgrowT hsT HO6 HS6 HG6
        simp only [Act.put, List.setIfInBounds_toArray, List.set_cons_zero, List.set_cons_succ]
        refine anyG_step [7] (by kernel_rfl) (by simp) ?_
        intro i hi7
        obtain rfl := List.mem_singleton.1 hi7
        refine opG_do rfl (by rfl) (wp_append_src _ _ _ rfl W4.heap.size 36 j0 (.agg #[.int .i64 0, .string ⟨#[]⟩]) 2 24 Tryz.underlying31 hi hz0 hz1 hz2 rfl (by decide) _ 0 (cellsIt (([] : List It).take 0)) rfl HOT.out _ 1 [Value.int .i64 30, Value.string ⟨#[81]⟩] rfl (.inr ⟨_, _, rfl, rfl, by intro u hu; simp at hu; rcases hu with rfl | rfl <;> rfl, fun j u hu => by rw [add_at]; rw [HGT.out.cell]; exact hu⟩) (by simp only [maxLen]; omega) (by omega) HST.out.2.size ?_)
        intro y7 w7 hown7 hgrow7 _
        have hs7 : (At w7 w3.heap.size 36 [.int .i64 30, .string ⟨#[81]⟩] ∧ Below W4.heap.size W4 w7) := ⟨HST.out.1.grown hgrow7 (fun e => by have := (HOT.out.lt _ e.symm).1; omega), HST.out.2.grown hgrow7 HST.out.2.size (fun k hk => (HOT.out.lt k hk).1)⟩
        have HO7 := Lib.hid hown7
        have HS7 := Lib.hid hs7
        refine ⟨fun _ => hs7, ?_⟩
        clear hown7 hgrow7 hs7 HOT HGT HST
        simp only [Act.put, List.setIfInBounds_toArray, List.set_cons_zero, List.set_cons_succ]
        refine anyG_step [11] (by kernel_rfl) (by simp) ?_
        intro i hi11
        obtain rfl := List.mem_singleton.1 hi11
        refine opG_do rfl (by rfl) (wp_append_src _ _ _ rfl W4.heap.size 36 j0 (.agg #[.int .i64 0, .string ⟨#[]⟩]) 2 24 Tryz.underlying31 hi hz0 hz1 hz2 rfl (by decide) _ (0 + 1) (cellsIt (([] : List It).take 0) ++ [Value.int .i64 30, Value.string ⟨#[81]⟩]) rfl HO7.out _ (0 - 0) (cellsIt (([] : List It).drop 0)) rfl (HSRC2.out.kept HS7.out.2) (by simp only [maxLen]; omega) (by omega) HS7.out.2.size ?_)
        intro y11 w11 hown11 hgrow11 _
        have hs11 : (At w11 w3.heap.size 36 [.int .i64 30, .string ⟨#[81]⟩] ∧ Below W4.heap.size W4 w11) := ⟨HS7.out.1.grown hgrow11 (fun e => by have := (HO7.out.lt _ e.symm).1; omega), HS7.out.2.grown hgrow11 HS7.out.2.size (fun k hk => (HO7.out.lt k hk).1)⟩
        have HO11 := Lib.hid hown11
        have HS11 := Lib.hid hs11
        refine ⟨fun _ => hs11, ?_⟩
        clear hown11 hgrow11 hs11 HO7 HS7
        simp only [Act.put, List.setIfInBounds_toArray, List.set_cons_zero, List.set_cons_succ]
        refine anyG_step [12] (by kernel_rfl) (by simp) ?_
        intro i hi12
        obtain rfl := List.mem_singleton.1 hi12
        refine opG_do rfl (by rfl) ?_
        go_simp
        refine ⟨HS11.out, ?_⟩
        refine anyG_end (by kernel_rfl) ?_
        go_wp2_with fail
        go_meet
        refine ⟨?_, HS11.out.2⟩
        have hown := HO11.out
        have e : cellsIt (([] : List It).take 0) ++ [.int .i64 30, .string ⟨#[81]⟩] ++ cellsIt (([] : List It).drop 0) = cellsIt (withOurs ([] : List It) 0) := by unfold withOurs; rw [cellsIt_append, cellsIt_append]; rfl
        have e2 : (withOurs ([] : List It) 0).length = 0 + 1 + (0 - 0) := by unfold withOurs; rw [List.length_append, List.length_append, List.length_take, List.length_drop, HN.out.1]; simp <;> omega
        rw [e, ← e2] at hown
        exact items_own hown
    clear hcg
    by_cases hkc : k = c
    · subst hkc
      have hc4 : ∀ i x, l[i]? = some x → W4.cell? ⟨g, i * 2, none⟩ = some (.int .i64 x.1) ∧ W4.cell? ⟨g, i * 2 + 1, none⟩ = some (.string x.2) := fun i x hx => by
        obtain ⟨g', e, h2, h3⟩ := HC4.out i x hx
        have e : g = g' := by injection e with e; injection e
        subst e
        exact ⟨h2, h3⟩
      have i0 : (0 : Int) ≤ (k : Int) := by omega
      have i1 : (k : Int) ≤ (k : Int) := by omega
      have i2 : (k : Int) ≤ (n : Int) := by omega
      have i3 : k ≤ k := by omega
      have HSRC1 : Hid (Src W4 (.slice (some ⟨g, 0, none⟩) k k) k 2 (cellsIt (l.take k))) := by
        exact items_src1 hc4 k k (by rw [HN.out.1]; exact hkn)
      have HSRC2 : Hid (∀ (W : World) (ad : Addr) (c : Nat), Src W (.slice (some ad) 0 c) 0 2 (cellsIt (l.drop k))) := by
        intro W ad c; have hd : l.drop k = [] := List.drop_of_length_le (by have := HN.out.1; omega); rw [hd]; exact .inr ⟨ad, c, rfl, by simp [cellsIt], by simp [cellsIt], by simp [cellsIt]⟩
      refine wp_region_fork 99 [1, 2, 3, 5, 8, 9, 10] 6 (fun W => At W w3.heap.size 36 [.int .i64 30, .string ⟨#[81]⟩] ∧ Below W4.heap.size W4 W) (by kernel_rfl) (by kernel_rfl) (last_none (by simp)) rfl (by kernel_rfl) (fun _ _ _ _ _ h => h) hS ?_
      iterate 7
        refine walkK_val (v := ?_) rfl (by rfl) (fun w' hS' => ?_) ?_
        rotate_left
        · have s0 := hS'.1.cell 0
          have s1 := hS'.1.cell 1
          simp only [List.getElem?_cons_zero, List.getElem?_cons_succ] at s0 s1
          clear hS'
          go_simp
          exact rfl
        simp only [Act.put, List.setIfInBounds_toArray, List.set_cons_zero, List.set_cons_succ]
      clear hS
      have hlP : w3.heap.size < W4.heap.size := HP4.out.lt
      simp only [walkK]
      refine anyG_step [0, 6] (by kernel_rfl) (by simp) ?_
      intro i hi0
      simp only [List.mem_cons, List.mem_nil_iff, or_false] at hi0
      rcases hi0 with rfl | rfl
      · refine opG_do rfl (by rfl) ?_
        go_simp
        obtain ⟨wA, hwA⟩ : ∃ wA, (W4.alloc (.cells #[] 36)).drew = wA := ⟨_, rfl⟩
        rw [hwA]
        have HSA := Lib.hid (show (At wA w3.heap.size 36 [.int .i64 30, .string ⟨#[81]⟩] ∧ Below W4.heap.size W4 wA) by rw [← hwA]; exact ⟨(HP4.out.alloc _).drew, ((Below.refl _ _).alloc (Nat.le_refl _) _).drew⟩)
        have HOA := Lib.hid (show wA.ownsRow W4.heap.size 36 2 (.slice (some ⟨W4.heap.size, 0, none⟩) 0 0) 0 [] by rw [← hwA]; exact own_empty (Nat.le_refl _) (heap_alloc_new W4 _))
        refine ⟨HSA.out, ?_⟩
        clear hwA
        refine anyG_step [4, 6] (by kernel_rfl) (by simp) ?_
        intro i hi4
        simp only [List.mem_cons, List.mem_nil_iff, or_false] at hi4
        rcases hi4 with rfl | rfl
        · refine opG_do rfl (by rfl) (wp_append_src _ _ _ rfl W4.heap.size 36 j0 (.agg #[.int .i64 0, .string ⟨#[]⟩]) 2 24 Tryz.underlying31 hi hz0 hz1 hz2 rfl (by decide) _ 0 [] rfl HOA.out _ k (cellsIt (l.take k)) rfl (HSRC1.out.kept HSA.out.2) (by simp only [maxLen]; omega) (by omega) HSA.out.2.size ?_)
          intro y w5 hown5 hgrow5 _
          rw [Nat.zero_add, List.nil_append] at hown5
          have hs5 : (At w5 w3.heap.size 36 [.int .i64 30, .string ⟨#[81]⟩] ∧ Below W4.heap.size W4 w5) := ⟨HSA.out.1.grown hgrow5 (fun e => by have := (HOA.out.lt _ e.symm).1; omega), HSA.out.2.grown hgrow5 HSA.out.2.size (fun k hk => (HOA.out.lt k hk).1)⟩
          have HO5 := Lib.hid hown5
          have HS5 := Lib.hid hs5
          refine ⟨fun _ => hs5, ?_⟩
          clear hown5 hgrow5 hs5 HOA HSA
          simp only [Act.put, List.setIfInBounds_toArray, List.set_cons_zero, List.set_cons_succ]
          refine anyG_step [6] (by kernel_rfl) (by simp) ?_
          intro i hi6
          obtain rfl := List.mem_singleton.1 hi6
          refine opG_do rfl (by rfl) ?_
          go_simp
          obtain ⟨wT, hwT⟩ : ∃ wT, w5.alloc (.cells #[.int .i64 30, .string ⟨#[81]⟩] 36) = wT := ⟨_, rfl⟩
          rw [hwT]
          have HST := Lib.hid (show (At wT w3.heap.size 36 [.int .i64 30, .string ⟨#[81]⟩] ∧ Below W4.heap.size W4 wT) by rw [← hwT]; exact ⟨HS5.out.1.alloc _, HS5.out.2.alloc HS5.out.2.size _⟩)
          have HOT := Lib.hid (show wT.ownsRow _ _ _ _ _ _ by rw [← hwT]; exact HO5.out.alloc _)
          have HGT := Lib.hid (show At wT w5.heap.size 36 [.int .i64 30, .string ⟨#[81]⟩] by rw [← hwT]; exact At.of_new _ _ _)
          refine ⟨HST.out, ?_⟩
          clear hwT HS5 HO5
          refine anyG_step [7] (by kernel_rfl) (by simp) ?_
          intro i hi7
          obtain rfl := List.mem_singleton.1 hi7
          refine opG_do rfl (by rfl) (wp_append_src _ _ _ rfl W4.heap.size 36 j0 (.agg #[.int .i64 0, .string ⟨#[]⟩]) 2 24 Tryz.underlying31 hi hz0 hz1 hz2 rfl (by decide) _ k (cellsIt (l.take k)) rfl HOT.out _ 1 [Value.int .i64 30, Value.string ⟨#[81]⟩] rfl (.inr ⟨_, _, rfl, rfl, by intro u hu; simp at hu; rcases hu with rfl | rfl <;> rfl, fun j u hu => by rw [add_at]; rw [HGT.out.cell]; exact hu⟩) (by simp only [maxLen]; omega) (by omega) HST.out.2.size ?_)
          intro y7 w7 hown7 hgrow7 _
          have hs7 : (At w7 w3.heap.size 36 [.int .i64 30, .string ⟨#[81]⟩] ∧ Below W4.heap.size W4 w7) := ⟨HST.out.1.grown hgrow7 (fun e => by have := (HOT.out.lt _ e.symm).1; omega), HST.out.2.grown hgrow7 HST.out.2.size (fun k hk => (HOT.out.lt k hk).1)⟩
          have HO7 := Lib.hid hown7
          have HS7 := Lib.hid hs7
          refine ⟨fun _ => hs7, ?_⟩
          clear hown7 hgrow7 hs7 HOT HGT HST
          simp only [Act.put, List.setIfInBounds_toArray, List.set_cons_zero, List.set_cons_succ]
          refine anyG_step [11] (by kernel_rfl) (by simp) ?_
          intro i hi11
          obtain rfl := List.mem_singleton.1 hi11
          refine opG_do rfl (by rfl) (wp_append_src _ _ _ rfl W4.heap.size 36 j0 (.agg #[.int .i64 0, .string ⟨#[]⟩]) 2 24 Tryz.underlying31 hi hz0 hz1 hz2 rfl (by decide) _ (k + 1) (cellsIt (l.take k) ++ [Value.int .i64 30, Value.string ⟨#[81]⟩]) rfl HO7.out _ (0) (cellsIt (l.drop k)) rfl (HSRC2.out _ _ _) (by simp only [maxLen]; omega) (by omega) HS7.out.2.size ?_)
          intro y11 w11 hown11 hgrow11 _
          have hs11 : (At w11 w3.heap.size 36 [.int .i64 30, .string ⟨#[81]⟩] ∧ Below W4.heap.size W4 w11) := ⟨HS7.out.1.grown hgrow11 (fun e => by have := (HO7.out.lt _ e.symm).1; omega), HS7.out.2.grown hgrow11 HS7.out.2.size (fun k hk => (HO7.out.lt k hk).1)⟩
          have HO11 := Lib.hid hown11
          have HS11 := Lib.hid hs11
          refine ⟨fun _ => hs11, ?_⟩
          clear hown11 hgrow11 hs11 HO7 HS7
          simp only [Act.put, List.setIfInBounds_toArray, List.set_cons_zero, List.set_cons_succ]
          refine anyG_step [12] (by kernel_rfl) (by simp) ?_
          intro i hi12
          obtain rfl := List.mem_singleton.1 hi12
          refine opG_do rfl (by rfl) ?_
          go_simp
          refine ⟨HS11.out, ?_⟩
          refine anyG_end (by kernel_rfl) ?_
          go_wp2_with fail
          go_meet
          refine ⟨?_, HS11.out.2⟩
          have hown := HO11.out
          have e : cellsIt (l.take k) ++ [.int .i64 30, .string ⟨#[81]⟩] ++ cellsIt (l.drop k) = cellsIt (withOurs l k) := by unfold withOurs; rw [cellsIt_append, cellsIt_append]; rfl
          have e2 : (withOurs l k).length = k + 1 + 0 := by unfold withOurs; rw [List.length_append, List.length_append, List.length_take, List.length_drop, HN.out.1]; simp <;> omega
          rw [e, ← e2] at hown
          exact items_own hown
        · refine opG_do rfl (by rfl) ?_
          go_simp
          obtain ⟨w6, hw6⟩ : ∃ w6, wA.alloc (.cells #[.int .i64 30, .string ⟨#[81]⟩] 36) = w6 := ⟨_, rfl⟩
          rw [hw6]
          have HS6 := Lib.hid (show (At w6 w3.heap.size 36 [.int .i64 30, .string ⟨#[81]⟩] ∧ Below W4.heap.size W4 w6) by rw [← hw6]; exact ⟨HSA.out.1.alloc _, HSA.out.2.alloc HSA.out.2.size _⟩)
          have HO6 := Lib.hid (show w6.ownsRow _ _ _ _ _ _ by rw [← hw6]; exact HOA.out.alloc _)
          have HG6 := Lib.hid (show At w6 wA.heap.size 36 [.int .i64 30, .string ⟨#[81]⟩] by rw [← hw6]; exact At.of_new _ _ _)
          refine ⟨HS6.out, ?_⟩
          clear hw6 HSA
          refine anyG_step [4] (by kernel_rfl) (by simp) ?_
          intro i hi44
          obtain rfl := List.mem_singleton.1 hi44
          refine opG_do rfl (by rfl) (wp_append_src _ _ _ rfl W4.heap.size 36 j0 (.agg #[.int .i64 0, .string ⟨#[]⟩]) 2 24 Tryz.underlying31 hi hz0 hz1 hz2 rfl (by decide) _ 0 [] rfl HO6.out _ k (cellsIt (l.take k)) rfl (HSRC1.out.kept HS6.out.2) (by simp only [maxLen]; omega) (by omega) HS6.out.2.size ?_)
          intro y wT hownT hgrowT _
          rw [Nat.zero_add, List.nil_append] at hownT
          have hsT : (At wT w3.heap.size 36 [.int .i64 30, .string ⟨#[81]⟩] ∧ Below W4.heap.size W4 wT) := ⟨HS6.out.1.grown hgrowT (fun e => by have := (HO6.out.lt _ e.symm).1; omega), HS6.out.2.grown hgrowT HS6.out.2.size (fun k hk => (HO6.out.lt k hk).1)⟩
          have HGT := Lib.hid (HG6.out.grown hgrowT (fun e => by have := (HOA.out.lt _ e.symm).2; omega))
          have HOT := Lib.hid hownT
          have HST := Lib.hid hsT
          refine ⟨fun _ => hsT, ?_⟩
          clear hownT hgrowT hsT HO6 HS6 HG6 HOA
          simp only [Act.put, List.setIfInBounds_toArray, List.set_cons_zero, List.set_cons_succ]
          refine anyG_step [7] (by kernel_rfl) (by simp) ?_
          intro i hi7
          obtain rfl := List.mem_singleton.1 hi7
          refine opG_do rfl (by rfl) (wp_append_src _ _ _ rfl W4.heap.size 36 j0 (.agg #[.int .i64 0, .string ⟨#[]⟩]) 2 24 Tryz.underlying31 hi hz0 hz1 hz2 rfl (by decide) _ k (cellsIt (l.take k)) rfl HOT.out _ 1 [Value.int .i64 30, Value.string ⟨#[81]⟩] rfl (.inr ⟨_, _, rfl, rfl, by intro u hu; simp at hu; rcases hu with rfl | rfl <;> rfl, fun j u hu => by rw [add_at]; rw [HGT.out.cell]; exact hu⟩) (by simp only [maxLen]; omega) (by omega) HST.out.2.size ?_)
          intro y7 w7 hown7 hgrow7 _
          have hs7 : (At w7 w3.heap.size 36 [.int .i64 30, .string ⟨#[81]⟩] ∧ Below W4.heap.size W4 w7) := ⟨HST.out.1.grown hgrow7 (fun e => by have := (HOT.out.lt _ e.symm).1; omega), HST.out.2.grown hgrow7 HST.out.2.size (fun k hk => (HOT.out.lt k hk).1)⟩
          have HO7 := Lib.hid hown7
          have HS7 := Lib.hid hs7
          refine ⟨fun _ => hs7, ?_⟩
          clear hown7 hgrow7 hs7 HOT HGT HST
          simp only [Act.put, List.setIfInBounds_toArray, List.set_cons_zero, List.set_cons_succ]
          refine anyG_step [11] (by kernel_rfl) (by simp) ?_
          intro i hi11
          obtain rfl := List.mem_singleton.1 hi11
          refine opG_do rfl (by rfl) (wp_append_src _ _ _ rfl W4.heap.size 36 j0 (.agg #[.int .i64 0, .string ⟨#[]⟩]) 2 24 Tryz.underlying31 hi hz0 hz1 hz2 rfl (by decide) _ (k + 1) (cellsIt (l.take k) ++ [Value.int .i64 30, Value.string ⟨#[81]⟩]) rfl HO7.out _ (0) (cellsIt (l.drop k)) rfl (HSRC2.out _ _ _) (by simp only [maxLen]; omega) (by omega) HS7.out.2.size ?_)
          intro y11 w11 hown11 hgrow11 _
          have hs11 : (At w11 w3.heap.size 36 [.int .i64 30, .string ⟨#[81]⟩] ∧ Below W4.heap.size W4 w11) := ⟨HS7.out.1.grown hgrow11 (fun e => by have := (HO7.out.lt _ e.symm).1; omega), HS7.out.2.grown hgrow11 HS7.out.2.size (fun k hk => (HO7.out.lt k hk).1)⟩
          have HO11 := Lib.hid hown11
          have HS11 := Lib.hid hs11
          refine ⟨fun _ => hs11, ?_⟩
          clear hown11 hgrow11 hs11 HO7 HS7
          simp only [Act.put, List.setIfInBounds_toArray, List.set_cons_zero, List.set_cons_succ]
          refine anyG_step [12] (by kernel_rfl) (by simp) ?_
          intro i hi12
          obtain rfl := List.mem_singleton.1 hi12
          refine opG_do rfl (by rfl) ?_
          go_simp
          refine ⟨HS11.out, ?_⟩
          refine anyG_end (by kernel_rfl) ?_
          go_wp2_with fail
          go_meet
          refine ⟨?_, HS11.out.2⟩
          have hown := HO11.out
          have e : cellsIt (l.take k) ++ [.int .i64 30, .string ⟨#[81]⟩] ++ cellsIt (l.drop k) = cellsIt (withOurs l k) := by unfold withOurs; rw [cellsIt_append, cellsIt_append]; rfl
          have e2 : (withOurs l k).length = k + 1 + 0 := by unfold withOurs; rw [List.length_append, List.length_append, List.length_take, List.length_drop, HN.out.1]; simp <;> omega
          rw [e, ← e2] at hown
          exact items_own hown
      · refine opG_do rfl (by rfl) ?_
        go_simp
        obtain ⟨wB, hwB⟩ : ∃ wB, (W4.alloc (.cells #[.int .i64 30, .string ⟨#[81]⟩] 36)).drew = wB := ⟨_, rfl⟩
        rw [hwB]
        have HSB := Lib.hid (show (At wB w3.heap.size 36 [.int .i64 30, .string ⟨#[81]⟩] ∧ Below W4.heap.size W4 wB) by rw [← hwB]; exact ⟨(HP4.out.alloc _).drew, ((Below.refl _ _).alloc (Nat.le_refl _) _).drew⟩)
        have HGB := Lib.hid (show At wB W4.heap.size 36 [.int .i64 30, .string ⟨#[81]⟩] by rw [← hwB]; exact (At.of_new _ _ _).drew)
        refine ⟨HSB.out, ?_⟩
        clear hwB
        refine anyG_step [0] (by kernel_rfl) (by simp) ?_
        intro i hi0
        obtain rfl := List.mem_singleton.1 hi0
        refine opG_do rfl (by rfl) ?_
        go_simp
        obtain ⟨w6, hw6⟩ : ∃ w6, wB.alloc (.cells #[] 36) = w6 := ⟨_, rfl⟩
        rw [hw6]
        have hlB := HGB.out.lt
        have HS6 := Lib.hid (show (At w6 w3.heap.size 36 [.int .i64 30, .string ⟨#[81]⟩] ∧ Below W4.heap.size W4 w6) by rw [← hw6]; exact ⟨HSB.out.1.alloc _, HSB.out.2.alloc HSB.out.2.size _⟩)
        have HO6 := Lib.hid (show w6.ownsRow W4.heap.size 36 2 (.slice (some ⟨wB.heap.size, 0, none⟩) 0 0) 0 [] by rw [← hw6]; exact own_empty (by omega) (heap_alloc_new wB _))
        have HG6 := Lib.hid (show At w6 W4.heap.size 36 [.int .i64 30, .string ⟨#[81]⟩] by rw [← hw6]; exact HGB.out.alloc _)
        refine ⟨HS6.out, ?_⟩
        clear hw6 HSB HGB
        refine anyG_step [4] (by kernel_rfl) (by simp) ?_
        intro i hi44
        obtain rfl := List.mem_singleton.1 hi44
        refine opG_do rfl (by rfl) (wp_append_src _ _ _ rfl W4.heap.size 36 j0 (.agg #[.int .i64 0, .string ⟨#[]⟩]) 2 24 Tryz.underlying31 hi hz0 hz1 hz2 rfl (by decide) _ 0 [] rfl HO6.out _ k (cellsIt (l.take k)) rfl (HSRC1.out.kept HS6.out.2) (by simp only [maxLen]; omega) (by omega) HS6.out.2.size ?_)
        intro y wT hownT hgrowT _
        rw [Nat.zero_add, List.nil_append] at hownT
        have hsT : (At wT w3.heap.size 36 [.int .i64 30, .string ⟨#[81]⟩] ∧ Below W4.heap.size W4 wT) := ⟨HS6.out.1.grown hgrowT (fun e => by have := (HO6.out.lt _ e.symm).1; omega), HS6.out.2.grown hgrowT HS6.out.2.size (fun k hk => (HO6.out.lt k hk).1)⟩
        have HGT := Lib.hid (HG6.out.grown hgrowT (fun e => by have e2 : W4.heap.size = wB.heap.size := Option.some.inj e; omega))
        have HOT := Lib.hid hownT
        have HST := Lib.hid hsT
        refine ⟨fun _ => hsT, ?_⟩
        clear hownT hgrowT hsT HO6 HS6 HG6
        simp only [Act.put, List.setIfInBounds_toArray, List.set_cons_zero, List.set_cons_succ]
        refine anyG_step [7] (by kernel_rfl) (by simp) ?_
        intro i hi7
        obtain rfl := List.mem_singleton.1 hi7
        refine opG_do rfl (by rfl) (wp_append_src _ _ _ rfl W4.heap.size 36 j0 (.agg #[.int .i64 0, .string ⟨#[]⟩]) 2 24 Tryz.underlying31 hi hz0 hz1 hz2 rfl (by decide) _ k (cellsIt (l.take k)) rfl HOT.out _ 1 [Value.int .i64 30, Value.string ⟨#[81]⟩] rfl (.inr ⟨_, _, rfl, rfl, by intro u hu; simp at hu; rcases hu with rfl | rfl <;> rfl, fun j u hu => by rw [add_at]; rw [HGT.out.cell]; exact hu⟩) (by simp only [maxLen]; omega) (by omega) HST.out.2.size ?_)
        intro y7 w7 hown7 hgrow7 _
        have hs7 : (At w7 w3.heap.size 36 [.int .i64 30, .string ⟨#[81]⟩] ∧ Below W4.heap.size W4 w7) := ⟨HST.out.1.grown hgrow7 (fun e => by have := (HOT.out.lt _ e.symm).1; omega), HST.out.2.grown hgrow7 HST.out.2.size (fun k hk => (HOT.out.lt k hk).1)⟩
        have HO7 := Lib.hid hown7
        have HS7 := Lib.hid hs7
        refine ⟨fun _ => hs7, ?_⟩
        clear hown7 hgrow7 hs7 HOT HGT HST
        simp only [Act.put, List.setIfInBounds_toArray, List.set_cons_zero, List.set_cons_succ]
        refine anyG_step [11] (by kernel_rfl) (by simp) ?_
        intro i hi11
        obtain rfl := List.mem_singleton.1 hi11
        refine opG_do rfl (by rfl) (wp_append_src _ _ _ rfl W4.heap.size 36 j0 (.agg #[.int .i64 0, .string ⟨#[]⟩]) 2 24 Tryz.underlying31 hi hz0 hz1 hz2 rfl (by decide) _ (k + 1) (cellsIt (l.take k) ++ [Value.int .i64 30, Value.string ⟨#[81]⟩]) rfl HO7.out _ (0) (cellsIt (l.drop k)) rfl (HSRC2.out _ _ _) (by simp only [maxLen]; omega) (by omega) HS7.out.2.size ?_)
        intro y11 w11 hown11 hgrow11 _
        have hs11 : (At w11 w3.heap.size 36 [.int .i64 30, .string ⟨#[81]⟩] ∧ Below W4.heap.size W4 w11) := ⟨HS7.out.1.grown hgrow11 (fun e => by have := (HO7.out.lt _ e.symm).1; omega), HS7.out.2.grown hgrow11 HS7.out.2.size (fun k hk => (HO7.out.lt k hk).1)⟩
        have HO11 := Lib.hid hown11
        have HS11 := Lib.hid hs11
        refine ⟨fun _ => hs11, ?_⟩
        clear hown11 hgrow11 hs11 HO7 HS7
        simp only [Act.put, List.setIfInBounds_toArray, List.set_cons_zero, List.set_cons_succ]
        refine anyG_step [12] (by kernel_rfl) (by simp) ?_
        intro i hi12
        obtain rfl := List.mem_singleton.1 hi12
        refine opG_do rfl (by rfl) ?_
        go_simp
        refine ⟨HS11.out, ?_⟩
        refine anyG_end (by kernel_rfl) ?_
        go_wp2_with fail
        go_meet
        refine ⟨?_, HS11.out.2⟩
        have hown := HO11.out
        have e : cellsIt (l.take k) ++ [.int .i64 30, .string ⟨#[81]⟩] ++ cellsIt (l.drop k) = cellsIt (withOurs l k) := by unfold withOurs; rw [cellsIt_append, cellsIt_append]; rfl
        have e2 : (withOurs l k).length = k + 1 + 0 := by unfold withOurs; rw [List.length_append, List.length_append, List.length_take, List.length_drop, HN.out.1]; simp <;> omega
        rw [e, ← e2] at hown
        exact items_own hown
    have hc4 : ∀ i x, l[i]? = some x → W4.cell? ⟨g, i * 2, none⟩ = some (.int .i64 x.1) ∧ W4.cell? ⟨g, i * 2 + 1, none⟩ = some (.string x.2) := fun i x hx => by
      obtain ⟨g', e, h2, h3⟩ := HC4.out i x hx
      have e : g = g' := by injection e with e; injection e
      subst e
      exact ⟨h2, h3⟩
    have i0 : (0 : Int) ≤ (k : Int) := by omega
    have i1 : (k : Int) ≤ (c : Int) := by omega
    have i2 : (k : Int) ≤ (n : Int) := by omega
    have i3 : k ≤ c := by omega
    have hck : ¬ c = k := fun e => hkc e.symm
    have HSRC1 : Hid (Src W4 (.slice (some ⟨g, 0, none⟩) k c) k 2 (cellsIt (l.take k))) := by
      exact items_src1 hc4 k c (by rw [HN.out.1]; exact hkn)
    have HSRC2 : Hid (Src W4 (.slice (some ⟨g, k * 2, none⟩) (n - k) (c - k)) (n - k) 2 (cellsIt (l.drop k))) := by
      have := items_src2 hc4 k (k * 2) (c - k) (by rw [HN.out.1]; exact hkn) (fun _ => rfl); rw [HN.out.1] at this; exact this
    refine wp_region_fork 99 [1, 2, 3, 5, 8, 9, 10] 6 (fun W => At W w3.heap.size 36 [.int .i64 30, .string ⟨#[81]⟩] ∧ Below W4.heap.size W4 W) (by kernel_rfl) (by kernel_rfl) (last_none (by simp)) rfl (by kernel_rfl) (fun _ _ _ _ _ h => h) hS ?_
    iterate 7
      refine walkK_val (v := ?_) rfl (by rfl) (fun w' hS' => ?_) ?_
      rotate_left
      · have s0 := hS'.1.cell 0
        have s1 := hS'.1.cell 1
        simp only [List.getElem?_cons_zero, List.getElem?_cons_succ] at s0 s1
        clear hS'
        go_simp
        exact rfl
      simp only [Act.put, List.setIfInBounds_toArray, List.set_cons_zero, List.set_cons_succ]
    clear hS
    have hlP : w3.heap.size < W4.heap.size := HP4.out.lt
    simp only [walkK]
    refine anyG_step [0, 6] (by kernel_rfl) (by simp) ?_
    intro i hi0
    simp only [List.mem_cons, List.mem_nil_iff, or_false] at hi0
    rcases hi0 with rfl | rfl
    · refine opG_do rfl (by rfl) ?_
      go_simp
      obtain ⟨wA, hwA⟩ : ∃ wA, (W4.alloc (.cells #[] 36)).drew = wA := ⟨_, rfl⟩
      rw [hwA]
      have HSA := Lib.hid (show (At wA w3.heap.size 36 [.int .i64 30, .string ⟨#[81]⟩] ∧ Below W4.heap.size W4 wA) by rw [← hwA]; exact ⟨(HP4.out.alloc _).drew, ((Below.refl _ _).alloc (Nat.le_refl _) _).drew⟩)
      have HOA := Lib.hid (show wA.ownsRow W4.heap.size 36 2 (.slice (some ⟨W4.heap.size, 0, none⟩) 0 0) 0 [] by rw [← hwA]; exact own_empty (Nat.le_refl _) (heap_alloc_new W4 _))
      refine ⟨HSA.out, ?_⟩
      clear hwA
      refine anyG_step [4, 6] (by kernel_rfl) (by simp) ?_
      intro i hi4
      simp only [List.mem_cons, List.mem_nil_iff, or_false] at hi4
      rcases hi4 with rfl | rfl
      · refine opG_do rfl (by rfl) (wp_append_src _ _ _ rfl W4.heap.size 36 j0 (.agg #[.int .i64 0, .string ⟨#[]⟩]) 2 24 Tryz.underlying31 hi hz0 hz1 hz2 rfl (by decide) _ 0 [] rfl HOA.out _ k (cellsIt (l.take k)) rfl (HSRC1.out.kept HSA.out.2) (by simp only [maxLen]; omega) (by omega) HSA.out.2.size ?_)
        intro y w5 hown5 hgrow5 _
        rw [Nat.zero_add, List.nil_append] at hown5
        have hs5 : (At w5 w3.heap.size 36 [.int .i64 30, .string ⟨#[81]⟩] ∧ Below W4.heap.size W4 w5) := ⟨HSA.out.1.grown hgrow5 (fun e => by have := (HOA.out.lt _ e.symm).1; omega), HSA.out.2.grown hgrow5 HSA.out.2.size (fun k hk => (HOA.out.lt k hk).1)⟩
        have HO5 := Lib.hid hown5
        have HS5 := Lib.hid hs5
        refine ⟨fun _ => hs5, ?_⟩
        clear hown5 hgrow5 hs5 HOA HSA
        simp only [Act.put, List.setIfInBounds_toArray, List.set_cons_zero, List.set_cons_succ]
        refine anyG_step [6] (by kernel_rfl) (by simp) ?_
        intro i hi6
        obtain rfl := List.mem_singleton.1 hi6
        refine opG_do rfl (by rfl) ?_
        go_simp
        obtain ⟨wT, hwT⟩ : ∃ wT, w5.alloc (.cells #[.int .i64 30, .string ⟨#[81]⟩] 36) = wT := ⟨_, rfl⟩
        rw [hwT]
        have HST := Lib.hid (show (At wT w3.heap.size 36 [.int .i64 30, .string ⟨#[81]⟩] ∧ Below W4.heap.size W4 wT) by rw [← hwT]; exact ⟨HS5.out.1.alloc _, HS5.out.2.alloc HS5.out.2.size _⟩)
        have HOT := Lib.hid (show wT.ownsRow _ _ _ _ _ _ by rw [← hwT]; exact HO5.out.alloc _)
        have HGT := Lib.hid (show At wT w5.heap.size 36 [.int .i64 30, .string ⟨#[81]⟩] by rw [← hwT]; exact At.of_new _ _ _)
        refine ⟨HST.out, ?_⟩
        clear hwT HS5 HO5
        refine anyG_step [7] (by kernel_rfl) (by simp) ?_
        intro i hi7
        obtain rfl := List.mem_singleton.1 hi7
        refine opG_do rfl (by rfl) (wp_append_src _ _ _ rfl W4.heap.size 36 j0 (.agg #[.int .i64 0, .string ⟨#[]⟩]) 2 24 Tryz.underlying31 hi hz0 hz1 hz2 rfl (by decide) _ k (cellsIt (l.take k)) rfl HOT.out _ 1 [Value.int .i64 30, Value.string ⟨#[81]⟩] rfl (.inr ⟨_, _, rfl, rfl, by intro u hu; simp at hu; rcases hu with rfl | rfl <;> rfl, fun j u hu => by rw [add_at]; rw [HGT.out.cell]; exact hu⟩) (by simp only [maxLen]; omega) (by omega) HST.out.2.size ?_)
        intro y7 w7 hown7 hgrow7 _
        have hs7 : (At w7 w3.heap.size 36 [.int .i64 30, .string ⟨#[81]⟩] ∧ Below W4.heap.size W4 w7) := ⟨HST.out.1.grown hgrow7 (fun e => by have := (HOT.out.lt _ e.symm).1; omega), HST.out.2.grown hgrow7 HST.out.2.size (fun k hk => (HOT.out.lt k hk).1)⟩
        have HO7 := Lib.hid hown7
        have HS7 := Lib.hid hs7
        refine ⟨fun _ => hs7, ?_⟩
        clear hown7 hgrow7 hs7 HOT HGT HST
        simp only [Act.put, List.setIfInBounds_toArray, List.set_cons_zero, List.set_cons_succ]
        refine anyG_step [11] (by kernel_rfl) (by simp) ?_
        intro i hi11
        obtain rfl := List.mem_singleton.1 hi11
        refine opG_do rfl (by rfl) (wp_append_src _ _ _ rfl W4.heap.size 36 j0 (.agg #[.int .i64 0, .string ⟨#[]⟩]) 2 24 Tryz.underlying31 hi hz0 hz1 hz2 rfl (by decide) _ (k + 1) (cellsIt (l.take k) ++ [Value.int .i64 30, Value.string ⟨#[81]⟩]) rfl HO7.out _ (n - k) (cellsIt (l.drop k)) rfl (HSRC2.out.kept HS7.out.2) (by simp only [maxLen]; omega) (by omega) HS7.out.2.size ?_)
        intro y11 w11 hown11 hgrow11 _
        have hs11 : (At w11 w3.heap.size 36 [.int .i64 30, .string ⟨#[81]⟩] ∧ Below W4.heap.size W4 w11) := ⟨HS7.out.1.grown hgrow11 (fun e => by have := (HO7.out.lt _ e.symm).1; omega), HS7.out.2.grown hgrow11 HS7.out.2.size (fun k hk => (HO7.out.lt k hk).1)⟩
        have HO11 := Lib.hid hown11
        have HS11 := Lib.hid hs11
        refine ⟨fun _ => hs11, ?_⟩
        clear hown11 hgrow11 hs11 HO7 HS7
        simp only [Act.put, List.setIfInBounds_toArray, List.set_cons_zero, List.set_cons_succ]
        refine anyG_step [12] (by kernel_rfl) (by simp) ?_
        intro i hi12
        obtain rfl := List.mem_singleton.1 hi12
        refine opG_do rfl (by rfl) ?_
        go_simp
        refine ⟨HS11.out, ?_⟩
        refine anyG_end (by kernel_rfl) ?_
        go_wp2_with fail
        go_meet
        refine ⟨?_, HS11.out.2⟩
        have hown := HO11.out
        have e : cellsIt (l.take k) ++ [.int .i64 30, .string ⟨#[81]⟩] ++ cellsIt (l.drop k) = cellsIt (withOurs l k) := by unfold withOurs; rw [cellsIt_append, cellsIt_append]; rfl
        have e2 : (withOurs l k).length = k + 1 + (n - k) := by unfold withOurs; rw [List.length_append, List.length_append, List.length_take, List.length_drop, HN.out.1]; simp <;> omega
        rw [e, ← e2] at hown
        exact items_own hown
      · refine opG_do rfl (by rfl) ?_
        go_simp
        obtain ⟨w6, hw6⟩ : ∃ w6, wA.alloc (.cells #[.int .i64 30, .string ⟨#[81]⟩] 36) = w6 := ⟨_, rfl⟩
        rw [hw6]
        have HS6 := Lib.hid (show (At w6 w3.heap.size 36 [.int .i64 30, .string ⟨#[81]⟩] ∧ Below W4.heap.size W4 w6) by rw [← hw6]; exact ⟨HSA.out.1.alloc _, HSA.out.2.alloc HSA.out.2.size _⟩)
        have HO6 := Lib.hid (show w6.ownsRow _ _ _ _ _ _ by rw [← hw6]; exact HOA.out.alloc _)
        have HG6 := Lib.hid (show At w6 wA.heap.size 36 [.int .i64 30, .string ⟨#[81]⟩] by rw [← hw6]; exact At.of_new _ _ _)
        refine ⟨HS6.out, ?_⟩
        clear hw6 HSA
        refine anyG_step [4] (by kernel_rfl) (by simp) ?_
        intro i hi44
        obtain rfl := List.mem_singleton.1 hi44
        refine opG_do rfl (by rfl) (wp_append_src _ _ _ rfl W4.heap.size 36 j0 (.agg #[.int .i64 0, .string ⟨#[]⟩]) 2 24 Tryz.underlying31 hi hz0 hz1 hz2 rfl (by decide) _ 0 [] rfl HO6.out _ k (cellsIt (l.take k)) rfl (HSRC1.out.kept HS6.out.2) (by simp only [maxLen]; omega) (by omega) HS6.out.2.size ?_)
        intro y wT hownT hgrowT _
        rw [Nat.zero_add, List.nil_append] at hownT
        have hsT : (At wT w3.heap.size 36 [.int .i64 30, .string ⟨#[81]⟩] ∧ Below W4.heap.size W4 wT) := ⟨HS6.out.1.grown hgrowT (fun e => by have := (HO6.out.lt _ e.symm).1; omega), HS6.out.2.grown hgrowT HS6.out.2.size (fun k hk => (HO6.out.lt k hk).1)⟩
        have HGT := Lib.hid (HG6.out.grown hgrowT (fun e => by have := (HOA.out.lt _ e.symm).2; omega))
        have HOT := Lib.hid hownT
        have HST := Lib.hid hsT
        refine ⟨fun _ => hsT, ?_⟩
        clear hownT hgrowT hsT HO6 HS6 HG6 HOA
        simp only [Act.put, List.setIfInBounds_toArray, List.set_cons_zero, List.set_cons_succ]
        refine anyG_step [7] (by kernel_rfl) (by simp) ?_
        intro i hi7
        obtain rfl := List.mem_singleton.1 hi7
        refine opG_do rfl (by rfl) (wp_append_src _ _ _ rfl W4.heap.size 36 j0 (.agg #[.int .i64 0, .string ⟨#[]⟩]) 2 24 Tryz.underlying31 hi hz0 hz1 hz2 rfl (by decide) _ k (cellsIt (l.take k)) rfl HOT.out _ 1 [Value.int .i64 30, Value.string ⟨#[81]⟩] rfl (.inr ⟨_, _, rfl, rfl, by intro u hu; simp at hu; rcases hu with rfl | rfl <;> rfl, fun j u hu => by rw [add_at]; rw [HGT.out.cell]; exact hu⟩) (by simp only [maxLen]; omega) (by omega) HST.out.2.size ?_)
        intro y7 w7 hown7 hgrow7 _
        have hs7 : (At w7 w3.heap.size 36 [.int .i64 30, .string ⟨#[81]⟩] ∧ Below W4.heap.size W4 w7) := ⟨HST.out.1.grown hgrow7 (fun e => by have := (HOT.out.lt _ e.symm).1; omega), HST.out.2.grown hgrow7 HST.out.2.size (fun k hk => (HOT.out.lt k hk).1)⟩
        have HO7 := Lib.hid hown7
        have HS7 := Lib.hid hs7
        refine ⟨fun _ => hs7, ?_⟩
        clear hown7 hgrow7 hs7 HOT HGT HST
        simp only [Act.put, List.setIfInBounds_toArray, List.set_cons_zero, List.set_cons_succ]
        refine anyG_step [11] (by kernel_rfl) (by simp) ?_
        intro i hi11
        obtain rfl := List.mem_singleton.1 hi11
        refine opG_do rfl (by rfl) (wp_append_src _ _ _ rfl W4.heap.size 36 j0 (.agg #[.int .i64 0, .string ⟨#[]⟩]) 2 24 Tryz.underlying31 hi hz0 hz1 hz2 rfl (by decide) _ (k + 1) (cellsIt (l.take k) ++ [Value.int .i64 30, Value.string ⟨#[81]⟩]) rfl HO7.out _ (n - k) (cellsIt (l.drop k)) rfl (HSRC2.out.kept HS7.out.2) (by simp only [maxLen]; omega) (by omega) HS7.out.2.size ?_)
        intro y11 w11 hown11 hgrow11 _
        have hs11 : (At w11 w3.heap.size 36 [.int .i64 30, .string ⟨#[81]⟩] ∧ Below W4.heap.size W4 w11) := ⟨HS7.out.1.grown hgrow11 (fun e => by have := (HO7.out.lt _ e.symm).1; omega), HS7.out.2.grown hgrow11 HS7.out.2.size (fun k hk => (HO7.out.lt k hk).1)⟩
        have HO11 := Lib.hid hown11
        have HS11 := Lib.hid hs11
        refine ⟨fun _ => hs11, ?_⟩
        clear hown11 hgrow11 hs11 HO7 HS7
        simp only [Act.put, List.setIfInBounds_toArray, List.set_cons_zero, List.set_cons_succ]
        refine anyG_step [12] (by kernel_rfl) (by simp) ?_
        intro i hi12
        obtain rfl := List.mem_singleton.1 hi12
        refine opG_do rfl (by rfl) ?_
        go_simp
        refine ⟨HS11.out, ?_⟩
        refine anyG_end (by kernel_rfl) ?_
        go_wp2_with fail
        go_meet
        refine ⟨?_, HS11.out.2⟩
        have hown := HO11.out
        have e : cellsIt (l.take k) ++ [.int .i64 30, .string ⟨#[81]⟩] ++ cellsIt (l.drop k) = cellsIt (withOurs l k) := by unfold withOurs; rw [cellsIt_append, cellsIt_append]; rfl
        have e2 : (withOurs l k).length = k + 1 + (n - k) := by unfold withOurs; rw [List.length_append, List.length_append, List.length_take, List.length_drop, HN.out.1]; simp <;> omega
        rw [e, ← e2] at hown
        exact items_own hown
    · refine opG_do rfl (by rfl) ?_
      go_simp
      obtain ⟨wB, hwB⟩ : ∃ wB, (W4.alloc (.cells #[.int .i64 30, .string ⟨#[81]⟩] 36)).drew = wB := ⟨_, rfl⟩
      rw [hwB]
      have HSB := Lib.hid (show (At wB w3.heap.size 36 [.int .i64 30, .string ⟨#[81]⟩] ∧ Below W4.heap.size W4 wB) by rw [← hwB]; exact ⟨(HP4.out.alloc _).drew, ((Below.refl _ _).alloc (Nat.le_refl _) _).drew⟩)
      have HGB := Lib.hid (show At wB W4.heap.size 36 [.int .i64 30, .string ⟨#[81]⟩] by rw [← hwB]; exact (At.of_new _ _ _).drew)
      refine ⟨HSB.out, ?_⟩
      clear hwB
      refine anyG_step [0] (by kernel_rfl) (by simp) ?_
      intro i hi0
      obtain rfl := List.mem_singleton.1 hi0
      refine opG_do rfl (by rfl) ?_
      go_simp
      obtain ⟨w6, hw6⟩ : ∃ w6, wB.alloc (.cells #[] 36) = w6 := ⟨_, rfl⟩
      rw [hw6]
      have hlB := HGB.out.lt
      have HS6 := Lib.hid (show (At w6 w3.heap.size 36 [.int .i64 30, .string ⟨#[81]⟩] ∧ Below W4.heap.size W4 w6) by rw [← hw6]; exact ⟨HSB.out.1.alloc _, HSB.out.2.alloc HSB.out.2.size _⟩)
      have HO6 := Lib.hid (show w6.ownsRow W4.heap.size 36 2 (.slice (some ⟨wB.heap.size, 0, none⟩) 0 0) 0 [] by rw [← hw6]; exact own_empty (by omega) (heap_alloc_new wB _))
      have HG6 := Lib.hid (show At w6 W4.heap.size 36 [.int .i64 30, .string ⟨#[81]⟩] by rw [← hw6]; exact HGB.out.alloc _)
      refine ⟨HS6.out, ?_⟩
      clear hw6 HSB HGB
      refine anyG_step [4] (by kernel_rfl) (by simp) ?_
      intro i hi44
      obtain rfl := List.mem_singleton.1 hi44
      refine opG_do rfl (by rfl) (wp_append_src _ _ _ rfl W4.heap.size 36 j0 (.agg #[.int .i64 0, .string ⟨#[]⟩]) 2 24 Tryz.underlying31 hi hz0 hz1 hz2 rfl (by decide) _ 0 [] rfl HO6.out _ k (cellsIt (l.take k)) rfl (HSRC1.out.kept HS6.out.2) (by simp only [maxLen]; omega) (by omega) HS6.out.2.size ?_)
      intro y wT hownT hgrowT _
      rw [Nat.zero_add, List.nil_append] at hownT
      have hsT : (At wT w3.heap.size 36 [.int .i64 30, .string ⟨#[81]⟩] ∧ Below W4.heap.size W4 wT) := ⟨HS6.out.1.grown hgrowT (fun e => by have := (HO6.out.lt _ e.symm).1; omega), HS6.out.2.grown hgrowT HS6.out.2.size (fun k hk => (HO6.out.lt k hk).1)⟩
      have HGT := Lib.hid (HG6.out.grown hgrowT (fun e => by have e2 : W4.heap.size = wB.heap.size := Option.some.inj e; omega))
      have HOT := Lib.hid hownT
      have HST := Lib.hid hsT
      refine ⟨fun _ => hsT, ?_⟩
      clear hownT hgrowT hsT HO6 HS6 HG6
      simp only [Act.put, List.setIfInBounds_toArray, List.set_cons_zero, List.set_cons_succ]
      refine anyG_step [7] (by kernel_rfl) (by simp) ?_
      intro i hi7
      obtain rfl := List.mem_singleton.1 hi7
      refine opG_do rfl (by rfl) (wp_append_src _ _ _ rfl W4.heap.size 36 j0 (.agg #[.int .i64 0, .string ⟨#[]⟩]) 2 24 Tryz.underlying31 hi hz0 hz1 hz2 rfl (by decide) _ k (cellsIt (l.take k)) rfl HOT.out _ 1 [Value.int .i64 30, Value.string ⟨#[81]⟩] rfl (.inr ⟨_, _, rfl, rfl, by intro u hu; simp at hu; rcases hu with rfl | rfl <;> rfl, fun j u hu => by rw [add_at]; rw [HGT.out.cell]; exact hu⟩) (by simp only [maxLen]; omega) (by omega) HST.out.2.size ?_)
      intro y7 w7 hown7 hgrow7 _
      have hs7 : (At w7 w3.heap.size 36 [.int .i64 30, .string ⟨#[81]⟩] ∧ Below W4.heap.size W4 w7) := ⟨HST.out.1.grown hgrow7 (fun e => by have := (HOT.out.lt _ e.symm).1; omega), HST.out.2.grown hgrow7 HST.out.2.size (fun k hk => (HOT.out.lt k hk).1)⟩
      have HO7 := Lib.hid hown7
      have HS7 := Lib.hid hs7
      refine ⟨fun _ => hs7, ?_⟩
      clear hown7 hgrow7 hs7 HOT HGT HST
      simp only [Act.put, List.setIfInBounds_toArray, List.set_cons_zero, List.set_cons_succ]
      refine anyG_step [11] (by kernel_rfl) (by simp) ?_
      intro i hi11
      obtain rfl := List.mem_singleton.1 hi11
      refine opG_do rfl (by rfl) (wp_append_src _ _ _ rfl W4.heap.size 36 j0 (.agg #[.int .i64 0, .string ⟨#[]⟩]) 2 24 Tryz.underlying31 hi hz0 hz1 hz2 rfl (by decide) _ (k + 1) (cellsIt (l.take k) ++ [Value.int .i64 30, Value.string ⟨#[81]⟩]) rfl HO7.out _ (n - k) (cellsIt (l.drop k)) rfl (HSRC2.out.kept HS7.out.2) (by simp only [maxLen]; omega) (by omega) HS7.out.2.size ?_)
      intro y11 w11 hown11 hgrow11 _
      have hs11 : (At w11 w3.heap.size 36 [.int .i64 30, .string ⟨#[81]⟩] ∧ Below W4.heap.size W4 w11) := ⟨HS7.out.1.grown hgrow11 (fun e => by have := (HO7.out.lt _ e.symm).1; omega), HS7.out.2.grown hgrow11 HS7.out.2.size (fun k hk => (HO7.out.lt k hk).1)⟩
      have HO11 := Lib.hid hown11
      have HS11 := Lib.hid hs11
      refine ⟨fun _ => hs11, ?_⟩
      clear hown11 hgrow11 hs11 HO7 HS7
      simp only [Act.put, List.setIfInBounds_toArray, List.set_cons_zero, List.set_cons_succ]
      refine anyG_step [12] (by kernel_rfl) (by simp) ?_
      intro i hi12
      obtain rfl := List.mem_singleton.1 hi12
      refine opG_do rfl (by rfl) ?_
      go_simp
      refine ⟨HS11.out, ?_⟩
      refine anyG_end (by kernel_rfl) ?_
      go_wp2_with fail
      go_meet
      refine ⟨?_, HS11.out.2⟩
      have hown := HO11.out
      have e : cellsIt (l.take k) ++ [.int .i64 30, .string ⟨#[81]⟩] ++ cellsIt (l.drop k) = cellsIt (withOurs l k) := by unfold withOurs; rw [cellsIt_append, cellsIt_append]; rfl
      have e2 : (withOurs l k).length = k + 1 + (n - k) := by unfold withOurs; rw [List.length_append, List.length_append, List.length_take, List.length_drop, HN.out.1]; simp <;> omega
      rw [e, ← e2] at hown
      exact items_own hown
  case rest =>
    obtain ⟨HIA, HBA⟩ := hcut
    have HXc := Lib.hid (HX4.out.kept HBA.out)
    have hl4 : w.heap.size ≤ W4.heap.size := Nat.le_trans B3.out.size HB4.out.size
    have HBc := Lib.hid ((B3.out.trans (HB4.out.mono B3.out.size)).trans (HBA.out.mono hl4))
    have HCc : Hid (∀ i x, l[i]? = some x → ∃ g, b = some ⟨g, 0, none⟩ ∧ wc.cell? ⟨g, i * 2, none⟩ = some (.int .i64 x.1) ∧ wc.cell? ⟨g, i * 2 + 1, none⟩ = some (.string x.2)) := fun i x hx => by
      obtain ⟨g, h1, h2, h3⟩ := HC4.out i x hx
      exact ⟨g, h1, (HBA.out.cell (p := ⟨g, i * 2, none⟩) (block_lt_of_cell h2)).trans h2, (HBA.out.cell (p := ⟨g, i * 2 + 1, none⟩) (block_lt_of_cell h3)).trans h3⟩
    obtain ⟨hm1, hm2, har⟩ := HM.out
    have hwm := with_may hm1 k
    have hwl : (withOurs l k).length ≤ 1000 := by unfold withOurs; rw [List.length_append, List.length_append, List.length_take, List.length_drop, HN.out.1]; simp; omega
    have hlw : w2.heap.size < wc.heap.size := HXc.out.lt
    clear hi hz0 hz1 hz2 j0 HBG HX4 HB4 HP4 B3 HC4 HBA
    by_cases hA : 40 < (itemsL (withOurs l k)).length
    · have HLAY : Hid (Calls Tryz.prog 7 #[u10] wc fun e w' => e = .returned (.tuple #[.string ⟨#[]⟩, .int .i64 6]) ∧ Below wc.heap.size wc w') := by
        have := alay_any u10 (withOurs l k) wc HIA.out hwl
        rw [show layI (withOurs l k) = (⟨#[]⟩, 6) by unfold layI; rw [if_pos hwm, if_pos hA]] at this
        exact this
      clear hA hwm hwl hm1 hm2 har HM HIA HXc HCc HXO
      go_wp2_with fail
      refine HLAY.out.mono ?_
      rintro _ w5 ⟨rfl, hb⟩
      have B5 := Lib.hid (HBc.out.trans (hb.mono HBc.out.size))
      clear hb HBc HLAY
      go_wp2_with fail
      go_ret
      exact ⟨rfl, B5.out⟩
    have HLAY : Hid (Calls Tryz.prog 7 #[u10] wc fun e w' => e = .returned (.tuple #[.string (areaOf (withOurs l k)), .int .i64 0]) ∧ Below wc.heap.size wc w') := by
      have := alay_any u10 (withOurs l k) wc HIA.out hwl
      rw [layI_good _ hwm (by omega)] at this
      exact this
    have hA40 : (itemsL (withOurs l k)).length ≤ 40 := by omega
    have hk40 : (itemsL (keeps l)).length ≤ 40 := Nat.le_trans (keeps_length l) hm2
    have hXO := HXO.out
    have hxo : (⟨src, dst, seq, ack, syn, ackOn, fin, rst, win, areaOf (withOurs l k), data⟩ : Sg).Ok := ⟨hXO.h0, hXO.h1, hXO.h2, hXO.h3, hXO.h4, (padL_size _ hA40).1, (padL_size _ hA40).2, hXO.h7⟩
    have hyo : (⟨src, dst, seq, ack, syn, ackOn, fin, rst, win, areaOf (keeps l), data⟩ : Sg).Ok := ⟨hXO.h0, hXO.h1, hXO.h2, hXO.h3, hXO.h4, (padL_size _ hk40).1, (padL_size _ hk40).2, hXO.h7⟩
    have hs1 := strip_of _ hxo (withOurs l k) hwm hA40 rfl
    have hs2 := strip_of _ hyo (keeps l) (keeps_may hm1) hk40 rfl
    rw [keeps_with] at hs1
    rw [keeps_keeps] at hs2
    simp only at hs1 hs2
    have hkl : (keeps l).length ≤ 4 := by
      have e : (keeps l).length ≤ l.length := by unfold keeps; exact List.length_filter_le _ _
      have := HN.out.1
      omega
    have ST1 : ∀ w, Calls Tryz.prog 9 #[.string (⟨src, dst, seq, ack, syn, ackOn, fin, rst, win, areaOf (withOurs l k), data⟩ : Sg).bytes] w fun e w' => e = .returned (.tuple #[.string (⟨src, dst, seq, ack, syn, ackOn, fin, rst, win, areaOf (keeps l), data⟩ : Sg).bytes, .int .i64 0]) ∧ Below w.heap.size w w' := fun w => by
      have := strip_any _ w (ok_le _ hxo); rw [hs1] at this; exact this
    have ST2 : ∀ w, Calls Tryz.prog 9 #[.string (⟨src, dst, seq, ack, syn, ackOn, fin, rst, win, areaOf (keeps l), data⟩ : Sg).bytes] w fun e w' => e = .returned (.tuple #[.string (⟨src, dst, seq, ack, syn, ackOn, fin, rst, win, areaOf (keeps l), data⟩ : Sg).bytes, .int .i64 0]) ∧ Below w.heap.size w w' := fun w => by
      have := strip_any _ w (ok_le _ hyo); rw [hs2] at this; exact this
    have LY := lay_ok _ hxo
    have PA : ParseTo 10 (⟨src, dst, seq, ack, syn, ackOn, fin, rst, win, areaOf (keeps l), data⟩ : Sg).bytes (⟨src, dst, seq, ack, syn, ackOn, fin, rst, win, areaOf (keeps l), data⟩ : Sg) 0 := by
      have := parse_ok _ (ok_le _ hyo) (read_bytes _ hyo).2; rw [(read_bytes _ hyo).1] at this; exact this
    have hak : (areaOf (keeps l)).size ≤ 9223372036854775807 := by have : (areaOf (keeps l)).size ≤ 40 := (padL_size _ hk40).1; omega
    have WK2 : ∀ w, Calls Tryz.prog 6 #[.string (areaOf (keeps l))] w fun e w' => ∃ v, e = .returned (.tuple #[v, .int .i64 0]) ∧ Items w' v (keeps l) ∧ Below w.heap.size w w' ∧ CapOk v :=
      fun w => (walk_full _ w hak).mono (fun e w' he => by obtain ⟨v, h1, h2, h3⟩ := he; rw [walk_area _ (keeps_may hm1) hk40] at h1 h2; exact ⟨v, h1, h2, h3⟩)
    have AL : ∀ w : World, w.cell? ⟨0, 0, none⟩ = some errT → Calls Tryz.prog 11 #[.string (areaOf (keeps l))] w fun e w' => e = .returned (.tuple #[.slice none 0 0, .int .i64 0]) ∧ Below w.heap.size w w' :=
      fun w hg => all_none _ (keeps l) w hak (walk_area _ (keeps_may hm1) hk40) keeps_not hg
    obtain ⟨s, es⟩ : ∃ s, (⟨src, dst, seq, ack, syn, ackOn, fin, rst, win, areaOf (withOurs l k), data⟩ : Sg).bytes = s := ⟨_, rfl⟩
    obtain ⟨t, et⟩ : ∃ s, (⟨src, dst, seq, ack, syn, ackOn, fin, rst, win, areaOf (keeps l), data⟩ : Sg).bytes = s := ⟨_, rfl⟩
    obtain ⟨la, ela⟩ : ∃ s, areaOf (withOurs l k) = s := ⟨_, rfl⟩
    obtain ⟨ka, eka⟩ : ∃ s, areaOf (keeps l) = s := ⟨_, rfl⟩
    rw [es] at ST1 LY
    rw [et] at ST1 ST2 PA
    rw [ela] at LY HLAY
    rw [eka] at PA WK2 AL
    obtain ⟨nk, enk⟩ : ∃ n, (keeps l).length = n := ⟨_, rfl⟩
    rw [enk] at hkl
    have HNK := Lib.hid enk
    have HLY := Lib.hid LY
    have HPA := Lib.hid PA
    have HST1 := Lib.hid ST1
    have HST2 := Lib.hid ST2
    have HWK2 := Lib.hid WK2
    have HAL := Lib.hid AL
    clear ST1 ST2 LY PA WK2 AL es et ela eka enk hs1 hs2 hxo hyo hXO hA hA40 hk40 hwm hwl hm1 hm2 har hak HM HIA HXO
    go_wp2_with fail
    refine HLAY.out.mono ?_
    rintro _ w5 ⟨rfl, hb⟩
    have B5 := Lib.hid (HBc.out.trans (hb.mono HBc.out.size))
    have HX5 := Lib.hid (HXc.out.kept hb)
    have HL5 := Lib.hid hb
    clear hb HLAY HXc HBc
    have hX5 := HX5.out
    obtain ⟨fx, x0, x1, x2, x3, x4, x5, x6, x7, x8, x9, x10, x11⟩ := hX5.cells12
    clear hX5
    go_upto_region 14 with fail
    clear fx x0 x1 x2 x3 x4 x5 x6 x7 x8 x9 x10 x11
    obtain ⟨W6, hW6⟩ : ∃ W, w5.setCell ⟨w2.heap.size, 10, none⟩ (.string la) = W := ⟨_, rfl⟩
    have HX6 := Lib.hid (show At W6 w2.heap.size 29 [.int .i64 0, .int .u16 src, .int .u16 dst, .int .u32 seq, .int .u32 ack, .bool syn, .bool ackOn, .bool fin, .bool rst, .int .u16 win, .string la, .string data] by rw [← hW6]; exact HX5.out.set_ 10 (.string la))
    have B6 := Lib.hid (show Below w.heap.size w W6 by rw [← hW6]; exact B5.out.setCell (p := ⟨w2.heap.size, 10, none⟩) hw2 (.string la))
    have HC6 : Hid (CellsAt W6 b l) := fun i x hx => by
      obtain ⟨g, h1, h2, h3⟩ := HCc.out i x hx
      have hgx : g ≠ w2.heap.size := by
        rintro rfl
        have hi : i < l.length := (List.getElem?_eq_some_iff.1 hx).1
        have hi4 : i < 4 := by have := HN.out.1; omega
        have q := (HL5.out.cell (p := ⟨w2.heap.size, i * 2 + 1, none⟩) (block_lt_of_cell h3)).trans h3
        rw [HX5.out.cell] at q
        obtain rfl | rfl | rfl | rfl : i = 0 ∨ i = 1 ∨ i = 2 ∨ i = 3 := by omega
        all_goals simp at q
      rw [← hW6]
      exact ⟨g, h1, (World.cell?_of_block (w := w5) (Below.heap_setCell w5 ⟨w2.heap.size, 10, none⟩ (.string la) g hgx)).trans ((HL5.out.cell (p := ⟨g, i * 2, none⟩) (block_lt_of_cell h2)).trans h2), (World.cell?_of_block (w := w5) (Below.heap_setCell w5 ⟨w2.heap.size, 10, none⟩ (.string la) g hgx)).trans ((HL5.out.cell (p := ⟨g, i * 2 + 1, none⟩) (block_lt_of_cell h3)).trans h3)⟩
    rw [hW6]
    have hX6 := HX6.out
    obtain ⟨fx, x0, x1, x2, x3, x4, x5, x6, x7, x8, x9, x10, x11⟩ := hX6.cells12
    clear hX6 HX5 B5 HL5 HCc hW6
    go_wp2_with fail
    refine (HLY.out _).mono ?_
    rintro _ w7 ⟨rfl, hb⟩
    have B7 := Lib.hid (B6.out.trans (hb.mono B6.out.size))
    have HX7 := Lib.hid (HX6.out.kept hb)
    have HC7 := Lib.hid (CellsAt.kept HC6.out hb)
    clear hb B6 HX6 HC6 HLY fx x0 x1 x2 x3 x4 x5 x6 x7 x8 x9 x10 x11
    go_wp2_with fail
    refine (HST1.out _).mono ?_
    rintro _ w8 ⟨rfl, hb⟩
    have B8 := Lib.hid (B7.out.trans (hb.mono B7.out.size))
    have HX8 := Lib.hid (HX7.out.kept hb)
    have HC8 := Lib.hid (HC7.out.kept hb)
    clear hb B7 HX7 HC7 HST1
    go_wp2_with fail
    refine (HST2.out _).mono ?_
    rintro _ w9 ⟨rfl, hb⟩
    have B9 := Lib.hid (B8.out.trans (hb.mono B8.out.size))
    have HX9 := Lib.hid (HX8.out.kept hb)
    have HC9 := Lib.hid (HC8.out.kept hb)
    clear hb B8 HX8 HC8 HST2
    go_wp2_with fail
    refine (HPA.out _).mono ?_
    unfold Sg.v
    rintro _ w10 ⟨rfl, hb⟩
    have hb2 := hb.trans (((Below.refl _ w10).alloc (Nat.le_refl _) (.cells #[.int .i64 0, .int .u16 src, .int .u16 dst, .int .u32 seq, .int .u32 ack, .bool syn, .bool ackOn, .bool fin, .bool rst, .int .u16 win, .string ka, .string data] 29)).mono hb.size)
    have HX11 := Lib.hid (HX9.out.kept hb2)
    have HC11 := Lib.hid (HC9.out.kept hb2)
    have HY11 := Lib.hid (At.of_new w10 29 #[.int .i64 0, .int .u16 src, .int .u16 dst, .int .u32 seq, .int .u32 ack, .bool syn, .bool ackOn, .bool fin, .bool rst, .int .u16 win, .string ka, .string data])
    have B11 := Lib.hid (B9.out.trans (hb2.mono B9.out.size))
    obtain ⟨W11, hW11⟩ : ∃ W, w10.alloc (.cells #[.int .i64 0, .int .u16 src, .int .u16 dst, .int .u32 seq, .int .u32 ack, .bool syn, .bool ackOn, .bool fin, .bool rst, .int .u16 win, .string ka, .string data] 29) = W := ⟨_, rfl⟩
    rw [hW11] at HX11 HC11 HY11 B11
    have hlt10 : w2.heap.size < w10.heap.size := Nat.lt_of_lt_of_le HX9.out.lt hb.size
    clear hb hb2 B9 HX9 HC9 HPA
    have y10 := HY11.out.cell 10
    have fy := HY11.out.frozen 10
    simp only [List.getElem?_cons_zero, List.getElem?_cons_succ] at y10
    go_wp2_with fail
    refine (HWK2.out _).mono ?_
    rintro _ w12 ⟨v2, rfl, hI, hb, hcap⟩
    have B12 := Lib.hid (B11.out.trans (hb.mono B11.out.size))
    have HX12 := Lib.hid (HX11.out.kept hb)
    have HY12 := Lib.hid (HY11.out.kept hb)
    have HC12 := Lib.hid (HC11.out.kept hb)
    obtain ⟨b2, c2, rfl, hc2⟩ : ∃ b c, v2 = .slice b (keeps l).length c ∧ CellsAt w12 b (keeps l) := by
      rcases hI with ⟨e, rfl⟩ | ⟨g, cap, rfl, hc⟩
      · exact ⟨_, _, by rw [e]; rfl, fun i x hx => by rw [e] at hx; simp at hx⟩
      · exact ⟨_, _, rfl, fun i x hx => ⟨g, rfl, hc i x hx⟩⟩
    have hcn2 : (keeps l).length ≤ c2 := hcap _ _ _ rfl
    rw [HNK.out] at hcn2 ⊢
    have HK12 := Lib.hid hc2
    clear hb hI hcap hc2 B11 HX11 HY11 HC11 hW11 y10 fy HWK2
    have y10 := HY12.out.cell 10
    have fy := HY12.out.frozen 10
    simp only [List.getElem?_cons_zero, List.getElem?_cons_succ] at y10
    have hg12 : w12.cell? ⟨0, 0, none⟩ = some errT := (B12.out.cell (p := ⟨0, 0, none⟩) hlt0).trans HG.out
    go_wp2_with fail
    refine (HAL.out _ hg12).mono ?_
    rintro _ w13 ⟨rfl, hb⟩
    have B13 := Lib.hid (B12.out.trans (hb.mono B12.out.size))
    have HX13 := Lib.hid (HX12.out.kept hb)
    have HY13 := Lib.hid (HY12.out.kept hb)
    have HC13 := Lib.hid (HC12.out.kept hb)
    have HK13 := Lib.hid (HK12.out.kept hb)
    clear hb B12 HX12 HY12 HC12 HK12 HAL hg12 y10 fy
    go_wp2_with fail
    have hl13 : w10.heap.size < w13.heap.size := HY13.out.lt
    go_loopw [25, 26] (fun wv cv wr => ∃ m : Nat, m ≤ n ∧ cv = .int .i64 m ∧ wv = .int .i64 (keeps (l.take m)).length ∧ Hid (Below w13.heap.size w13 wr)) (fun _ i _ => n - (intOf i).toNat)
    case atStart => exact ⟨0, Nat.zero_le _, rfl, rfl, Lib.hid (Below.refl _ _)⟩
    case round =>
      obtain ⟨m, hm, rfl, rfl, HBr⟩ := hrel
      by_cases hlt : m < n
      · have hml : m < l.length := by rw [HN.out.1]; exact hlt
        obtain ⟨x, hx⟩ : ∃ x, l[m]? = some x := ⟨_, List.getElem?_eq_getElem hml⟩
        obtain ⟨g, rfl, k1, k2⟩ := HC13.out m x hx
        have c1 : wr.cell? ⟨g, m * 2, none⟩ = _ := (HBr.out.cell (p := ⟨g, m * 2, none⟩) (block_lt_of_cell k1)).trans k1
        have c2 : wr.cell? ⟨g, m * 2 + 1, none⟩ = _ := (HBr.out.cell (p := ⟨g, m * 2 + 1, none⟩) (block_lt_of_cell k2)).trans k2
        obtain ⟨kind, body⟩ := x
        simp only at c1 c2
        by_cases hk : kind = 30
        · have hsk := keeps_skip l m _ hx hk
          have HSK := Lib.hid hsk
          obtain ⟨j, ej⟩ : ∃ j, (keeps (l.take m)).length = j := ⟨_, rfl⟩
          rw [ej] at HSK ⊢
          have HJ := Lib.hid ej
          subst hk
          clear hsk k1 k2 hx hml ej
          go_wp2_with fail
          exact ⟨⟨m + 1, by omega, int_eq (by omega), by rw [HSK.out], HBr⟩, by simp [intOf]; omega⟩
        · obtain ⟨ka1, ka2⟩ := keeps_at l m _ hx hk
          obtain ⟨j, ej⟩ : ∃ j, (keeps (l.take m)).length = j := ⟨_, rfl⟩
          rw [ej] at ka1 ka2 ⊢
          have HKA := Lib.hid ka2
          have hj : j < nk := by rw [← HNK.out]; exact (List.getElem?_eq_some_iff.1 ka1).1
          obtain ⟨g2, rfl, q1, q2⟩ := HK13.out j _ ka1
          have c3 : wr.cell? ⟨g2, j * 2, none⟩ = _ := (HBr.out.cell (p := ⟨g2, j * 2, none⟩) (block_lt_of_cell q1)).trans q1
          have c4 : wr.cell? ⟨g2, j * 2 + 1, none⟩ = _ := (HBr.out.cell (p := ⟨g2, j * 2 + 1, none⟩) (block_lt_of_cell q2)).trans q2
          simp only at c3 c4
          have t1 : decide ((nk : Int) ≤ (j : Int)) = false := decide_eq_false (by omega)
          have t2 : decide (nk ≤ j) = false := decide_eq_false (by omega)
          have i0 : (0 : Int) ≤ (j : Int) := by omega
          have i1 : (j : Int) < (nk : Int) := by omega
          have i2 : (0 : Int) ≤ (m : Int) := by omega
          have i3 : (m : Int) < (n : Int) := by omega
          clear k1 k2 hx hml ej ka1 ka2 q1 q2
          go_upto_region 27 with fail
          go_quiet (fail)
          have s1 : IntKind.i64.wrap ((j : Int) + 1) = (j : Int) + 1 := IntWalk.i64_in _ (by omega)
          go_wp2_with fail
          exact ⟨⟨m + 1, by omega, int_eq (by omega), by rw [HKA.out]; exact int_eq (by omega), Lib.hid ⟨HBr.out.os, HBr.out.tape, HBr.out.output, HBr.out.size, HBr.out.block⟩⟩, by simp [intOf]; omega⟩
      · obtain rfl : m = n := by omega
        have hwant : (keeps (l.take m)).length = nk := by rw [List.take_of_length_le (by rw [HN.out.1]; exact Nat.le_refl _)]; exact HNK.out
        rw [hwant]
        have HXr := Lib.hid (HX13.out.kept HBr.out)
        have HYr := Lib.hid (HY13.out.kept HBr.out)
        have Br := Lib.hid (B13.out.trans (HBr.out.mono B13.out.size))
        have x10 := HXr.out.cell 10
        have fx := HXr.out.frozen 10
        have y10 := HYr.out.cell 10
        have fy := HYr.out.frozen 10
        simp only [List.getElem?_cons_zero, List.getElem?_cons_succ] at x10 y10
        clear hwant
        go_upto_region 31 with fail
        obtain ⟨W14, hW14⟩ : ∃ W, wr.setCell ⟨w10.heap.size, 10, none⟩ (.string la) = W := ⟨_, rfl⟩
        rw [hW14]
        have hX14 : At W14 w2.heap.size 29 [.int .i64 0, .int .u16 src, .int .u16 dst, .int .u32 seq, .int .u32 ack, .bool syn, .bool ackOn, .bool fin, .bool rst, .int .u16 win, .string la, .string data] := by rw [← hW14]; exact HXr.out.far (p := ⟨w10.heap.size, 10, none⟩) (by simp; omega) (.string la)
        have hY14 : At W14 w10.heap.size 29 [.int .i64 0, .int .u16 src, .int .u16 dst, .int .u32 seq, .int .u32 ack, .bool syn, .bool ackOn, .bool fin, .bool rst, .int .u16 win, .string la, .string data] := by rw [← hW14]; exact HYr.out.set_ 10 (.string la)
        have B14 := Lib.hid (show Below w.heap.size w W14 by rw [← hW14]; exact Br.out.setCell (p := ⟨w10.heap.size, 10, none⟩) (by simp; omega) (.string la))
        clear hW14 x10 fx y10 fy HXr HYr Br
        obtain ⟨fx, x0, x1, x2, x3, x4, x5, x6, x7, x8, x9, x10, x11⟩ := hX14.cells12
        obtain ⟨fy, y0, y1, y2, y3, y4, y5, y6, y7, y8, y9, y10, y11⟩ := hY14.cells12
        clear hX14 hY14
        go_wp2_with fail
        go_ret
        exact ⟨rfl, B14.out⟩
end Go.Proofs.YtbbkinldfpphdaaGreatDoor
