/- The document's Strip, walked. -/
import Derived.Test.YtdkkfhlijapbeaaD1
import Derived.Test.YtdkkfhlijapbeaaA4
import Derived.Test.YtdkkfhlijapbeaaE1
import Derived.Test.YtdkkfhlijapbeaaE2
namespace Go.Proofs.Ytdkkfhlijapbeaa
open Go.RowKit Pl

theorem rstrip_wrong (s : ByteArray) (w : World) (hz : s.size ≤ 9223372036854775807) (h : wrong s ≠ 0) :
    Calls Try.prog 26 #[.string s] w fun e w' => e = .returned (.tuple #[.string ⟨#[]⟩, .int .i64 (wrong s : Nat)]) ∧ Below w.heap.size w w' := by
  have HP := Lib.hid (rparse_no s hz h)
  obtain ⟨k, hk⟩ : ∃ k, wrong s = k := ⟨_, rfl⟩
  rw [hk] at HP h ⊢
  have h1 : ((k : Int) == 0) = false := by simp; omega
  have h2 : ((k : Int) != 0) = true := by simp; omega
  clear hk h
  go_enter Try.func26, Try.ntmps26
  go_wp2_with fail
  refine (HP.out _).mono ?_
  unfold Sg.v noS
  rintro e w1 ⟨rfl, hb1⟩
  go_wp2_with fail
  go_ret2
  exact ⟨rfl, hb1.alloc hb1.size _⟩

set_option maxRecDepth 20000 in
set_option maxHeartbeats 1000000 in
theorem rstrip_bad (s : ByteArray) (w : World) (hz : s.size ≤ 9223372036854775807) (h0 : wrong s = 0) (h : (walkR (readS s).area).2 ≠ 0) :
    Calls Try.prog 26 #[.string s] w fun e w' => e = .returned (.tuple #[.string ⟨#[]⟩, .int .i64 ((walkR (readS s).area).2 : Nat)]) ∧ Below w.heap.size w w' := by
  have HP := Lib.hid (rparse_ok s hz h0)
  have hx := (read_ok s h0).1
  obtain ⟨x, ex⟩ : ∃ x, readS s = x := ⟨_, rfl⟩
  rw [ex] at HP h hx ⊢
  obtain ⟨src, dst, seq, ack, syn, ackOn, fin, rst, win, area, data⟩ := x
  have h5 : area.size ≤ 40 := hx.h5
  simp only at h
  obtain ⟨k, hk⟩ : ∃ k, (walkR area).2 = k := ⟨_, rfl⟩
  have HW : Hid (∀ w, Calls Try.prog 50 #[.string area] w fun e w' => ∃ v, e = .returned (.tuple #[v, .int .i64 k]) ∧ Below w.heap.size w w') :=
    fun w => (rwalk4_any area w (by omega)).mono (fun e w' he => by obtain ⟨v, h1, h2, h3⟩ := he; exact ⟨v, by rw [h1, hk], h3⟩)
  rw [hk] at h ⊢
  have h1 : ((k : Int) == 0) = false := by simp; omega
  have h2 : ((k : Int) != 0) = true := by simp; omega
  clear ex h0 hz hx hk h
  go_enter Try.func26, Try.ntmps26
  go_wp2_with fail
  refine (HP.out _).mono ?_
  unfold Sg.v
  rintro e w1 ⟨rfl, hb1⟩
  have HB1 := Lib.hid hb1
  clear hb1
  go_wp2_with fail
  refine (HW.out _).mono ?_
  rintro e w2 ⟨v, rfl, hb2⟩
  have HB2 := Lib.hid (allocThen HB1.out hb2)
  clear hb2 HB1
  go_wp2_with fail
  go_ret2
  exact ⟨rfl, HB2.out⟩

set_option maxRecDepth 20000 in
set_option maxHeartbeats 4000000 in
theorem rstrip_good (s : ByteArray) (w : World) (hz : s.size ≤ 9223372036854775807) (h0 : wrong s = 0) (h : (walkR (readS s).area).2 = 0) :
    Calls Try.prog 26 #[.string s] w fun e w' => e = .returned (.tuple #[.string ({ readS s with area := bareB (readS s).area } : Sg).bytes, .int .i64 0]) ∧ Below w.heap.size w w' := by
  have HP := Lib.hid (rparse_ok s hz h0)
  have hx := (read_ok s h0).1
  obtain ⟨x, ex⟩ : ∃ x, readS s = x := ⟨_, rfl⟩
  rw [ex] at HP h hx ⊢
  have HL := Lib.hid (rlay_ok _ (strip_ok hx))
  obtain ⟨t, et⟩ : ∃ t, ({ x with area := bareB x.area } : Sg).bytes = t := ⟨_, rfl⟩
  rw [et] at HL ⊢
  obtain ⟨src, dst, seq, ack, syn, ackOn, fin, rst, win, area, data⟩ := x
  have h5 : area.size ≤ 40 := hx.h5
  simp only at h HL
  obtain ⟨xs, hxs⟩ : ∃ xs, (walkR area).1 = xs := ⟨_, rfl⟩
  obtain ⟨bare, hbare⟩ : ∃ b, bareB area = b := ⟨_, rfl⟩
  have hlx : xs.length ≤ 40 := by rw [← hxs]; exact walkR_length area
  have HW : Hid (∀ w, Calls Try.prog 50 #[.string area] w fun e w' => ∃ v, e = .returned (.tuple #[v, .int .i64 0]) ∧ Items w' v xs ∧ Below w.heap.size w w') :=
    fun w => (rwalk4_any area w (by omega)).mono (fun e w' he => by obtain ⟨v, h1, h2, h3⟩ := he; exact ⟨v, by rw [h1, h]; rfl, by rw [← hxs]; exact h2, h3⟩)
  have HLY : Hid (∀ v w, Items w v (keeps xs) → Calls Try.prog 21 #[v] w fun e w' => e = .returned (.tuple #[.string bare, .int .i64 0]) ∧ Below w.heap.size w w') :=
    fun v w hi => (rlay4_any v (keeps xs) w hi (Nat.le_trans (List.length_filter_le _ _) (by omega))).mono (fun e w' he => by
      have := lay_keeps area
      rw [hxs] at this
      rw [this] at he
      refine ⟨by rw [he.1, ← hbare]; unfold bareB; rw [hxs]; rfl, he.2⟩)
  rw [hbare] at HL
  clear hx hxs hbare h ex et h0 hz
  go_enter Try.func26, Try.ntmps26
  go_wp2_with fail
  refine (HP.out _).mono ?_
  unfold Sg.v
  rintro e w0 ⟨rfl, hb0⟩
  have HB0 := Lib.hid hb0
  clear hb0 HP
  go_wp2_with fail
  refine (HW.out _).mono ?_
  rintro e w1 ⟨v, rfl, hI, hb⟩
  have hX : At w1 w0.heap.size 29 [.int .i64 0, .int .u16 src, .int .u16 dst, .int .u32 seq, .int .u32 ack, .bool syn, .bool ackOn, .bool fin, .bool rst, .int .u16 win, .string area, .string data] := (At.of_new w0 _ _).kept hb
  have HX := Lib.hid hX
  have HB := Lib.hid (allocThen HB0.out hb)
  obtain ⟨b, c, rfl, hc⟩ : ∃ b c, v = .slice b xs.length c ∧ ∀ i x, xs[i]? = some x → ∃ g, b = some ⟨g, 0, none⟩ ∧ w1.cell? ⟨g, i * 2, none⟩ = some (.int .i64 x.1) ∧ w1.cell? ⟨g, i * 2 + 1, none⟩ = some (.string x.2) := by
    rcases hI with ⟨rfl, rfl⟩ | ⟨g, cap, rfl, hc⟩
    · exact ⟨_, _, rfl, fun i x hx => by simp at hx⟩
    · exact ⟨_, _, rfl, fun i x hx => ⟨g, rfl, hc i x hx⟩⟩
  have HC := Lib.hid hc
  obtain ⟨n, en⟩ : ∃ n, xs.length = n := ⟨_, rfl⟩
  rw [en] at hlx ⊢
  have HN := Lib.hid en
  have hw0 : w.heap.size ≤ w0.heap.size := HB0.out.size
  have hl0 : w0.heap.size < w1.heap.size := hX.lt
  clear hX hb hI hc en HW HB0
  obtain ⟨i0, hi, hz0, hz1, hz2⟩ := info_parts info_item
  go_wp2_with fail
  go_loopw [8, 9] (fun v6 i wr => ∃ m : Nat, m ≤ n ∧ i = .int .i64 m ∧ Hid (wr.ownsRow w1.heap.size 54 2 v6 (keeps (xs.take m)).length (cellsIt (keeps (xs.take m)))) ∧ Hid (Below w1.heap.size w1 wr)) (fun _ i _ => n - (intOf i).toNat)
  case atStart => exact ⟨0, Nat.zero_le _, rfl, World.ownsRow_nil _ _ _ _, Below.refl _ _⟩
  case round =>
    obtain ⟨m, hm, rfl, HO, HBr⟩ := hrel
    by_cases hlt : m < n
    · have hml : m < xs.length := by rw [HN.out]; exact hlt
      obtain ⟨x, hx⟩ : ∃ x, xs[m]? = some x := ⟨_, List.getElem?_eq_getElem hml⟩
      obtain ⟨kind, body⟩ := x
      obtain ⟨g, rfl, k1, k2⟩ := HC.out m _ hx
      have c1 : wr.cell? ⟨g, m * 2, none⟩ = some (.int .i64 kind) := (HBr.out.cell (p := ⟨g, m * 2, none⟩) (block_lt_of_cell k1)).trans k1
      have c2 : wr.cell? ⟨g, m * 2 + 1, none⟩ = some (.string body) := (HBr.out.cell (p := ⟨g, m * 2 + 1, none⟩) (block_lt_of_cell k2)).trans k2
      have e : xs.take (m + 1) = xs.take m ++ [(kind, body)] := by rw [List.take_add_one, hx]; rfl
      have HT := Lib.hid e
      clear k1 k2 hx e
      by_cases hk : kind = 30
      · subst hk
        go_wp2_with fail
        refine ⟨⟨m + 1, by omega, int_eq (by omega), ?_, HBr⟩, by simp [intOf]; omega⟩
        rw [HT.out, keeps_out]; exact HO.out
      · have hlen : (keeps (xs.take m)).length ≤ 40 := Nat.le_trans (List.length_filter_le _ _) (by rw [List.length_take]; omega)
        have n1 : (kind == 30) = false := by rw [beq_eq_false_iff_ne]; exact hk
        have n2 : (kind != 30) = true := by rw [bne_iff_ne]; exact hk
        go_wp2_with (at_builtin; refine wpList_append_own _ rfl _ _ 52 rfl w1.heap.size 54 i0 (.agg #[.int .i64 0, .string ⟨#[]⟩]) 2 24 Try.underlying52 hi hz0 hz1 hz2 rfl (by decide) _ _ _ rfl (HO.out.alloc _) ⟨wr.heap.size, 0, none⟩ 1 1 [.int .i64 kind, .string body] rfl rfl ?c1 ?c2 ?c3 ?c4 ?c5 ?_)
        case c1 =>
          intro j u hu
          have hA := At.of_new wr 54 #[.int .i64 kind, .string body]
          match j, hu with
          | 0, hu => simp at hu; subst hu; exact hA.cell 0
          | 1, hu => simp at hu; subst hu; exact hA.cell 1
          | _ + 2, hu => simp at hu
        case c2 => intro u hu; simp at hu; rcases hu with rfl | rfl <;> rfl
        case c3 => exact (by simp only [maxLen]; omega)
        case c4 => omega
        case c5 => have := HBr.out.size; simp; omega
        intro v' w4 hown' hgrow _
        have hb4 : Below w1.heap.size w1 w4 := (HBr.out.alloc HBr.out.size _).grown hgrow (by have := HBr.out.size; simp; omega) (fun k hk => (HO.out.lt k hk).1)
        have HO4 := Lib.hid hown'
        have HB4 := Lib.hid hb4
        clear hown' hgrow hb4 HO
        go_wp2_with fail
        refine ⟨⟨m + 1, by omega, int_eq (by omega), ?_, HB4.out⟩, by simp [intOf]; omega⟩
        have e := keeps_cells (xs.take m) kind body hk
        rw [HT.out, e.1, e.2]; exact HO4.out
    · have e : xs.take m = xs := List.take_of_length_le (by have := HN.out; omega)
      rw [e] at HO
      have HIt := Lib.hid (items_own HO.out)
      clear HO e
      go_wp2_with fail
      refine (HLY.out _ _ HIt.out).mono ?_
      rintro e w2 ⟨rfl, hb2⟩
      have hA := (HX.out.kept HBr.out).kept hb2
      have hB2 := HB.out.trans ((HBr.out.trans (hb2.mono HBr.out.size)).mono HB.out.size)
      obtain ⟨f, d0, d1, d2, d3, d4, d5, d6, d7, d8, d9, d10, d11⟩ := hA.cells12
      have HB3 := Lib.hid (hB2.setCell (p := ⟨w0.heap.size, 10, none⟩) hw0 (.string bare))
      clear hA hB2 hb2 HX HIt HLY HC HN
      go_wp2_with fail
      refine (HL.out _).mono ?_
      rintro e w3 ⟨rfl, hb3⟩
      have HB4 := Lib.hid (HB3.out.trans (hb3.mono HB3.out.size))
      clear hb3 HB3 f d0 d1 d2 d3 d4 d5 d6 d7 d8 d9 d10 d11 HL
      go_wp2_with fail
      go_ret2
      exact ⟨rfl, HB4.out⟩

theorem rstrip_any (s : ByteArray) (w : World) (hz : s.size ≤ 9223372036854775807) :
    Calls Try.prog 26 #[.string s] w fun e w' => e = .returned (.tuple #[.string (stripR s).1, .int .i64 (stripR s).2]) ∧ Below w.heap.size w w' := by
  unfold stripR
  by_cases h : wrong s = 0
  · rw [if_neg (by simpa using h)]
    by_cases hb : (walkR (readS s).area).2 = 0
    · rw [if_neg (by simpa using hb)]
      exact rstrip_good s w hz h hb
    · rw [if_pos hb]
      exact rstrip_bad s w hz h hb
  · rw [if_pos h]
    exact rstrip_wrong s w hz h
end Go.Proofs.Ytdkkfhlijapbeaa
