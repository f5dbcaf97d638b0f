/- The deed of box.Strip, walked; box.Strip. -/
import Derived.Test.YtbbkinldfpphdaaGreatDoorA3
import Derived.Test.YtbbkinldfpphdaaGreatDoorAq
import Derived.Test.YtbbkinldfpphdaaGreatDoorB6
namespace Go.Proofs.YtbbkinldfpphdaaGreatDoor
open Go.RowKit Pl Go.Shelf

theorem keeps_cells (xs : List It) (k : Int) (b : ByteArray) (h : k ≠ 30) : cellsIt (keeps (xs ++ [(k, b)])) = cellsIt (keeps xs) ++ [.int .i64 k, .string b] ∧ (keeps (xs ++ [(k, b)])).length = (keeps xs).length + 1 := by
  rw [keeps_snoc, if_neg (by exact h)]; simp [cellsIt]
theorem keeps_out (xs : List It) (b : ByteArray) : keeps (xs ++ [((30 : Int), b)]) = keeps xs := by
  rw [keeps_snoc, if_pos rfl, List.append_nil]

set_option maxRecDepth 20000 in
set_option maxHeartbeats 2000000 in
theorem strip_bad (B : World) (x : Sg) (hx : x.Ok) (h : (walkR x.area).2 ≠ 0) :
    Does 25 #[] B x (GiveNot (walkR x.area).2) := by
  intro W hBW
  obtain ⟨src, dst, seq, ack, syn, ackOn, fin, rst, win, area, data⟩ := x
  have h5 : area.size ≤ 40 := hx.h5
  have h : (walkR area).2 ≠ 0 := h
  show Calls _ _ _ _ (GiveNot (walkR area).2 W)
  obtain ⟨k, hk⟩ : ∃ k, (walkR area).2 = k := ⟨_, rfl⟩
  have HW : Hid (∀ w, Calls Tryz.prog 6 #[.string area] w fun e w' => ∃ v, e = .returned (.tuple #[v, .int .i64 k]) ∧ Below w.heap.size w w') :=
    fun w => (walk_any area w (by omega)).mono (fun e w' he => by obtain ⟨v, h1, h2, h3⟩ := he; exact ⟨v, by rw [h1, hk], h3⟩)
  rw [hk] at h ⊢
  have hk0 : ¬ (k : Int) = 0 := by omega
  clear hx hk hBW h
  unfold Sg.v
  simp only [List.append_toArray, List.cons_append, List.nil_append]
  go_enter Tryz.func25, Tryz.ntmps25
  go_wp2_with fail
  refine (HW.out _).mono ?_
  rintro e w1 ⟨v, rfl, hb⟩
  have HB := Lib.hid hb
  clear hb
  go_wp2_with fail
  go_ret2
  exact ⟨rfl, allocThen (Below.refl _ _) HB.out⟩

set_option maxRecDepth 20000 in
set_option maxHeartbeats 4000000 in
theorem strip_good (B : World) (x : Sg) (hx : x.Ok) (h : (walkR x.area).2 = 0) :
    Does 25 #[] B x (GiveOne { x with area := bareB x.area }) := by
  intro W hBW
  obtain ⟨src, dst, seq, ack, syn, ackOn, fin, rst, win, area, data⟩ := x
  have h5 : area.size ≤ 40 := hx.h5
  have h : (walkR area).2 = 0 := h
  show Calls _ _ _ _ (GiveOne ⟨src, dst, seq, ack, syn, ackOn, fin, rst, win, bareB area, data⟩ W)
  obtain ⟨xs, hxs⟩ : ∃ xs, (walkR area).1 = xs := ⟨_, rfl⟩
  obtain ⟨bare, hbare⟩ : ∃ b, bareB area = b := ⟨_, rfl⟩
  have hlx : xs.length ≤ 40 := by rw [← hxs]; exact walkR_length area
  have HW : Hid (∀ w, Calls Tryz.prog 6 #[.string area] w fun e w' => ∃ v, e = .returned (.tuple #[v, .int .i64 0]) ∧ Items w' v xs ∧ Below w.heap.size w w') :=
    fun w => (walk_any area w (by omega)).mono (fun e w' he => by obtain ⟨v, h1, h2, h3⟩ := he; exact ⟨v, by rw [h1, h]; rfl, by rw [← hxs]; exact h2, h3⟩)
  have HLY : Hid (∀ v w, Items w v (keeps xs) → Calls Tryz.prog 7 #[v] w fun e w' => e = .returned (.tuple #[.string bare, .int .i64 0]) ∧ Below w.heap.size w w') :=
    fun v w hi => (alay_any v (keeps xs) w hi (Nat.le_trans (List.length_filter_le _ _) (by omega))).mono (fun e w' he => by
      have := lay_keeps area
      rw [hxs] at this
      rw [this] at he
      refine ⟨by rw [he.1, ← hbare]; unfold bareB; rw [hxs]; rfl, he.2⟩)
  rw [hbare]
  clear hx hxs hbare hBW h
  unfold Sg.v
  simp only [List.append_toArray, List.cons_append, List.nil_append]
  go_enter Tryz.func25, Tryz.ntmps25
  go_wp2_with fail
  refine (HW.out _).mono ?_
  rintro e w1 ⟨v, rfl, hI, hb⟩
  have hX : At w1 W.heap.size 29 [.int .i64 0, .int .u16 src, .int .u16 dst, .int .u32 seq, .int .u32 ack, .bool syn, .bool ackOn, .bool fin, .bool rst, .int .u16 win, .string area, .string data] := (At.of_new W _ _).kept hb
  have HX := Lib.hid hX
  have HB := Lib.hid (allocThen (Below.refl _ _) hb)
  obtain ⟨b, c, rfl, hc⟩ : ∃ b c, v = .slice b xs.length c ∧ ∀ i x, xs[i]? = some x → ∃ g, b = some ⟨g, 0, none⟩ ∧ w1.cell? ⟨g, i * 2, none⟩ = some (.int .i64 x.1) ∧ w1.cell? ⟨g, i * 2 + 1, none⟩ = some (.string x.2) := by
    rcases hI with ⟨rfl, rfl⟩ | ⟨g, cap, rfl, hc⟩
    · exact ⟨_, _, rfl, fun i x hx => by simp at hx⟩
    · exact ⟨_, _, rfl, fun i x hx => ⟨g, rfl, hc i x hx⟩⟩
  have HC := Lib.hid hc
  obtain ⟨n, en⟩ : ∃ n, xs.length = n := ⟨_, rfl⟩
  rw [en] at hlx ⊢
  have HN := Lib.hid en
  clear hX hb hI hc en HW
  obtain ⟨i0, hi, hz0, hz1, hz2⟩ := info_parts info_item
  go_wp2_with fail
  go_loopw [6, 20] (fun v6 i wr => ∃ m : Nat, m ≤ n ∧ i = .int .i64 m ∧ Hid (wr.ownsRow w1.heap.size 36 2 v6 (keeps (xs.take m)).length (cellsIt (keeps (xs.take m)))) ∧ Hid (Below w1.heap.size w1 wr)) (fun _ i _ => n - (intOf i).toNat)
  case atStart => exact ⟨0, Nat.zero_le _, rfl, World.ownsRow_nil _ _ _ _, Below.refl _ _⟩
  case round =>
    obtain ⟨m, hm, rfl, HO, HBr⟩ := hrel
    by_cases hlt : m < n
    · have hml : m < xs.length := by rw [HN.out]; exact hlt
      obtain ⟨x, hx⟩ : ∃ x, xs[m]? = some x := ⟨_, List.getElem?_eq_getElem hml⟩
      obtain ⟨kind, body⟩ := x
      obtain ⟨g, rfl, k1, k2⟩ := HC.out m _ hx
      have c1 : wr.cell? ⟨g, m * 2, none⟩ = some (.int .i64 kind) := (HBr.out.cell (p := ⟨g, m * 2, none⟩) (block_lt_of_cell k1)).trans k1
      have c2 : wr.cell? ⟨g, m * 2 + 1, none⟩ = some (.string body) := (HBr.out.cell (p := ⟨g, m * 2 + 1, none⟩) (block_lt_of_cell k2)).trans k2
      have e : xs.take (m + 1) = xs.take m ++ [(kind, body)] := by rw [List.take_add_one, hx]; rfl
      have HT := Lib.hid e
      clear k1 k2 hx e
      by_cases hk : kind = 30
      · subst hk
        go_wp2_with fail
        refine ⟨⟨m + 1, by omega, int_eq (by omega), ?_, ?_⟩, by simp [intOf]; omega⟩
        · rw [HT.out, keeps_out]; exact own_kept HO.out ((Below.refl _ _).alloc (Nat.le_refl _) _)
        · exact HBr.out.alloc HBr.out.size _
      · have hlen : (keeps (xs.take m)).length ≤ 40 := Nat.le_trans (List.length_filter_le _ _) (by rw [List.length_take]; omega)
        go_wp2_with (at_builtin; refine wpList_append_own _ rfl _ _ 31 rfl w1.heap.size 36 i0 (.agg #[.int .i64 0, .string ⟨#[]⟩]) 2 24 Tryz.underlying31 hi hz0 hz1 hz2 rfl (by decide) _ _ _ rfl ((HO.out.alloc _).alloc _) ⟨wr.heap.size + 1, 0, none⟩ 1 1 [.int .i64 kind, .string body] rfl rfl ?c1 ?c2 ?c3 ?c4 ?c5 ?_)
        case c1 =>
          intro j u hu
          have hA := At.of_new (wr.alloc (.cells #[.int .i64 kind, .string body] 36)) 36 #[.int .i64 kind, .string body]
          rw [World.size_alloc] at hA
          match j, hu with
          | 0, hu => simp at hu; subst hu; exact hA.cell 0
          | 1, hu => simp at hu; subst hu; exact hA.cell 1
          | _ + 2, hu => simp at hu
        case c2 => intro u hu; simp at hu; rcases hu with rfl | rfl <;> rfl
        case c3 => exact (by simp only [maxLen]; omega)
        case c4 => omega
        case c5 => have := HBr.out.size; simp; omega
        intro v' w4 hown' hgrow _
        have hb4 : Below w1.heap.size w1 w4 := ((HBr.out.alloc HBr.out.size _).alloc (by simp; have := HBr.out.size; omega) _).grown hgrow (by have := HBr.out.size; simp; omega) (fun k hk => (HO.out.lt k hk).1)
        have HO4 := Lib.hid hown'
        have HB4 := Lib.hid hb4
        clear hown' hgrow hb4 HO
        go_wp2_with fail
        refine ⟨⟨m + 1, by omega, int_eq (by omega), ?_, HB4.out⟩, by simp [intOf]; omega⟩
        have e := keeps_cells (xs.take m) kind body hk
        rw [HT.out, e.1, e.2]; exact HO4.out
    · have e : xs.take m = xs := List.take_of_length_le (by have := HN.out; omega)
      rw [e] at HO
      have HIt := Lib.hid (items_own HO.out)
      clear HO e
      go_wp2_with fail
      refine (HLY.out _ _ HIt.out).mono ?_
      rintro e w2 ⟨rfl, hb2⟩
      have hA := (HX.out.kept HBr.out).kept hb2
      have hB2 := HB.out.trans ((HBr.out.trans (hb2.mono HBr.out.size)).mono HB.out.size)
      obtain ⟨f, d0, d1, d2, d3, d4, d5, d6, d7, d8, d9, d10, d11⟩ := hA.cells12
      have HB2 := Lib.hid hB2
      have hlW := hA.lt
      clear hA hB2 hb2 HX HIt
      go_wp2_with fail
      go_ret2
      exact ⟨_, rfl, At.new1 (At.of_new _ _ _) (by simp [World.setCell]), (HB2.out.setCell (p := ⟨W.heap.size, 10, none⟩) (Nat.le_refl _) _).alloc (by have := HB2.out.size; simp [World.setCell]; omega) _⟩
theorem strip_ok {x : Sg} (h : x.Ok) : ({ x with area := bareB x.area } : Sg).Ok := by
  have hk := keeps_length (walkR x.area).1
  have hm := (walk_may x.area).2
  have hz : (bareB x.area).size = (itemsL (keeps (walkR x.area).1)).length + padN (itemsL (keeps (walkR x.area).1)).length := by
    unfold bareB; rw [size_ba]; simp [padL]
  have hp : padN (itemsL (keeps (walkR x.area).1)).length = (4 - (itemsL (keeps (walkR x.area).1)).length % 4) % 4 := rfl
  exact ⟨h.h0, h.h1, h.h2, h.h3, h.h4, (by show (bareB x.area).size ≤ 40; omega), (by show (bareB x.area).size % 4 = 0; omega), h.h7⟩
theorem enters_strip : Enters 25 := enters_of Tryz.func25 (by kernel_rfl) rfl
def stripR (s : ByteArray) : ByteArray × Nat :=
  if wrong s ≠ 0 then (⟨#[]⟩, wrong s) else if (walkR (readS s).area).2 ≠ 0 then (⟨#[]⟩, (walkR (readS s).area).2) else
    (({ readS s with area := bareB (readS s).area } : Sg).bytes, 0)

set_option maxHeartbeats 1000000 in
theorem strip_any (s : ByteArray) (w : World) (hz : s.size ≤ 9223372036854775807) :
    Calls Tryz.prog 9 #[.string s] w fun e w' => e = .returned (.tuple #[.string (stripR s).1, .int .i64 (stripR s).2]) ∧ Below w.heap.size w w' := by
  have hd : ∃ (t : ByteArray) (k : Nat), stripR s = (t, k) ∧ ∀ W, W = w →
      Calls Tryz.prog 24 #[.string s, .func (.func 25) #[] #[]] W fun e w' => (k ≠ 0 ∧ t = ⟨#[]⟩ ∧ GiveNot k W e w') ∨ (k = 0 ∧ GiveS [t] W e w') := by
    unfold stripR
    by_cases h : wrong s = 0
    · rw [if_neg (by simpa using h)]
      have hx := (read_ok s h).1
      by_cases hb : (walkR (readS s).area).2 = 0
      · rw [if_neg (by simpa using hb)]
        exact ⟨_, _, rfl, fun W hW => (done_one s _ _ _ W hz h enters_strip (strip_ok hx) (strip_good W _ hx hb)).mono fun e w' he => .inr ⟨rfl, he⟩⟩
      · rw [if_pos hb]
        exact ⟨_, _, rfl, fun W hW => (done_not s _ _ _ W hz h enters_strip hb (strip_bad W _ hx hb)).mono fun e w' he => .inl ⟨hb, rfl, he⟩⟩
    · rw [if_pos h]
      exact ⟨_, _, rfl, fun W _ => (done_wrong s _ W hz h).mono fun e w' he => .inl ⟨h, rfl, he⟩⟩
  obtain ⟨t, k, hr, hd⟩ := hd
  rw [hr]
  have HD := Lib.hid (hd _ rfl)
  clear hd hr
  go_enter Tryz.func9, Tryz.ntmps9
  go_wp2_with fail
  refine HD.out.mono ?_
  rintro e w1 (⟨hk, rfl, rfl, hb1⟩ | ⟨rfl, v, rfl, hs, hb1⟩)
  · have HB1 := Lib.hid (hb1)
    have HO := Lib.hid (only_not (.slice none 0 0) k w1 hk)
    clear hb1 hk
    go_wp2_with fail
    refine HO.out.mono ?_
    rintro e w2 ⟨rfl, rfl⟩
    go_wp2_with fail
    go_ret2
    exact ⟨rfl, HB1.out⟩
  · have HB1 := Lib.hid (hb1)
    have HO := Lib.hid (only_one v t w1 hs)
    clear hb1 hs
    go_wp2_with fail
    refine HO.out.mono ?_
    rintro e w2 ⟨rfl, rfl⟩
    go_wp2_with fail
    go_ret2
    exact ⟨rfl, HB1.out⟩

end Go.Proofs.YtbbkinldfpphdaaGreatDoor
