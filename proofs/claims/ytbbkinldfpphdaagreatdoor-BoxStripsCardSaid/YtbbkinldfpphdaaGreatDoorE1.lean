/- The document's May and Lay of items, walked. -/
import Derived.Test.YtbbkinldfpphdaaGreatDoorA1
import Derived.Deep.RegionWith
namespace Go.Proofs.YtbbkinldfpphdaaGreatDoor
open Go.RowKit Pl

/-- May an item be? As a bool. -/
def mayB (x : It) : Bool := decide (mayI x)
theorem mayB_yes {x : It} (h : mayI x) : mayB x = true := decide_eq_true h
theorem mayB_no {x : It} (h : ¬ mayI x) : mayB x = false := decide_eq_false h
set_option maxHeartbeats 400000 in
theorem may_any (kind : Int) (body : ByteArray) (w : World) (b : Bool) (hb : mayB (kind, body) = b) :
    Calls Tryz.prog 35 #[.agg #[.int .i64 kind, .string body]] w fun e w' => e = .returned (.bool b) ∧ Below w.heap.size w w' := by
  have HB : Hid (mayB (kind, body) = b) := hb
  clear hb
  by_cases q1 : 1 < kind
  · have e1 : decide (2 ≤ kind) = true := by simp; omega
    by_cases q2 : kind ≤ 255
    · have e2 : decide (kind ≤ 255) = true := by simp; omega
      by_cases q3 : body.size ≤ 253
      · have e3 : decide ((body.size : Int) ≤ 253) = true := by simp; omega
        have HT : Hid (b = true) := HB.out.symm.trans (mayB_yes ⟨q1, q2, q3⟩)
        clear HB
        go_enter Tryz.func35, Tryz.ntmps35
        go_wp2
        go_ret
        exact ⟨by rw [HT.out]; rfl, (Below.refl _ _).alloc (Nat.le_refl _) _⟩
      · have e3 : decide ((body.size : Int) ≤ 253) = false := by simp; omega
        have HT : Hid (b = false) := HB.out.symm.trans (mayB_no (fun h => q3 h.2.2))
        clear HB
        go_enter Tryz.func35, Tryz.ntmps35
        go_wp2
        go_ret
        exact ⟨by rw [HT.out]; rfl, (Below.refl _ _).alloc (Nat.le_refl _) _⟩
    · have e2 : decide (kind ≤ 255) = false := by simp; omega
      have HT : Hid (b = false) := HB.out.symm.trans (mayB_no (fun h => q2 h.2.1))
      clear HB
      go_enter Tryz.func35, Tryz.ntmps35
      go_wp2
      go_ret
      exact ⟨by rw [HT.out]; rfl, (Below.refl _ _).alloc (Nat.le_refl _) _⟩
  · have e1 : decide (2 ≤ kind) = false := by simp; omega
    have HT : Hid (b = false) := HB.out.symm.trans (mayB_no (fun h => q1 h.1))
    clear HB
    go_enter Tryz.func35, Tryz.ntmps35
    go_wp2
    go_ret
    exact ⟨by rw [HT.out]; rfl, (Below.refl _ _).alloc (Nat.le_refl _) _⟩

theorem two_cells (kind : Int) (n : Nat) (h0 : 0 ≤ kind) (h1 : kind < 256) (h2 : n < 254) :
    cellsOf [UInt8.ofNat kind.toNat, UInt8.ofNat (2 + n)] = [.int .u8 kind, .int .u8 ((n : Int) + 2)] := by
  unfold cellsOf
  rw [List.map_cons, List.map_cons, List.map_nil, UInt8.toNat_ofNat', UInt8.toNat_ofNat', Nat.mod_eq_of_lt (by omega), Nat.mod_eq_of_lt (by omega), Int.toNat_of_nonneg h0]
  congr 3
  omega
theorem two_bytes (kind : Int) (n : Nat) (h0 : 0 ≤ kind) (h1 : kind < 256) (h2 : n < 254) (W : World) (g : Nat) (hA : At W g 5 [.int .u8 kind, .int .u8 ((n : Int) + 2)]) :
    (convert 24 9 (.slice (some ⟨g, 0, none⟩) 2 2)).run Tryz.prog W = .ok (.string ⟨#[UInt8.ofNat kind.toNat, UInt8.ofNat (2 + n)]⟩) W := by
  rw [← two_cells kind n h0 h1 h2] at hA
  exact conv_str (P := Tryz.prog) 24 9 5 Tryz.underlying24 Tryz.underlying5 Tryz.underlying9 _ g 5 [UInt8.ofNat kind.toNat, UInt8.ofNat (2 + n)] 0 2 2 hA (by simp)

set_option maxRecDepth 20000 in
set_option maxHeartbeats 4000000 in
theorem rlay4_any (v : Value) (xs : List It) (w : World) (h : Items w v xs) (hn : xs.length ≤ 1000) :
    Calls Tryz.prog 16 #[v] w fun e w' => e = .returned (.tuple #[.string (layI xs).1, .int .i64 (layI xs).2]) ∧ Below w.heap.size w w' := by
  obtain ⟨r, er⟩ : ∃ r, layI xs = r := ⟨_, rfl⟩
  obtain ⟨t, k⟩ := r
  rw [er]
  have HR := Lib.hid er
  clear er
  obtain ⟨b, cap, rfl, hc⟩ : ∃ b c, v = .slice b xs.length c ∧ ∀ i x, xs[i]? = some x → ∃ g, b = some ⟨g, 0, none⟩ ∧ w.cell? ⟨g, i * 2, none⟩ = some (.int .i64 x.1) ∧ w.cell? ⟨g, i * 2 + 1, none⟩ = some (.string x.2) := by
    rcases h with ⟨rfl, rfl⟩ | ⟨g, cap, rfl, hc⟩
    · exact ⟨_, _, rfl, fun i x hx => by simp at hx⟩
    · exact ⟨_, _, rfl, fun i x hx => ⟨g, rfl, hc i x hx⟩⟩
  have HC := Lib.hid hc
  obtain ⟨n, en⟩ : ∃ n, xs.length = n := ⟨_, rfl⟩
  rw [en] at hn ⊢
  have HN := Lib.hid en
  clear hc en h
  go_enter Tryz.func16, Tryz.ntmps16
  go_wp2_with fail
  go_loopw [4, 5] (fun b i wr => ∃ (m : Nat) (l : ByteArray), m ≤ n ∧ i = .int .i64 m ∧ b = .string l ∧ l.size ≤ 255 * m ∧ Hid (l.data.toList = itemsL (xs.take m) ∧ (∀ x ∈ xs.take m, mayI x)) ∧ Hid (Below w.heap.size w wr)) (fun _ i _ => n - (intOf i).toNat)
  case atStart => exact ⟨0, ⟨#[]⟩, Nat.zero_le _, rfl, rfl, by decide, ⟨rfl, by simp⟩, Below.refl _ _⟩
  case round =>
    obtain ⟨m, l, hm, rfl, rfl, hlz, HL, HB⟩ := hrel
    by_cases hlt : m < n
    · have hml : m < xs.length := by rw [HN.out]; exact hlt
      obtain ⟨x, hx⟩ : ∃ x, xs[m]? = some x := ⟨_, List.getElem?_eq_getElem hml⟩
      obtain ⟨kind, body⟩ := x
      obtain ⟨g, rfl, k1, k2⟩ := HC.out m _ hx
      have c1 : wr.cell? ⟨g, m * 2, none⟩ = some (.int .i64 kind) := (HB.out.cell (p := ⟨g, m * 2, none⟩) (block_lt_of_cell k1)).trans k1
      have c2 : wr.cell? ⟨g, m * 2 + 1, none⟩ = some (.string body) := (HB.out.cell (p := ⟨g, m * 2 + 1, none⟩) (block_lt_of_cell k2)).trans k2
      have HX := Lib.hid hx
      have hmem := Lib.hid (List.mem_of_getElem? hx)
      clear k1 k2 hx
      have HK1 := Lib.hid c1
      have HK2 := Lib.hid c2
      by_cases hmay : mayI (kind, body)
      · have HMAY := Lib.hid (may_any kind body wr true (mayB_yes hmay))
        have HM := Lib.hid hmay
        obtain ⟨q1, q2, q3⟩ := hmay
        simp only at q1 q2 q3
        go_wp2_with fail
        refine HMAY.out.mono ?_
        rintro e w1 ⟨rfl, hb1⟩
        have c1' : w1.cell? ⟨g, m * 2, none⟩ = some (.int .i64 kind) := (hb1.cell (p := ⟨g, m * 2, none⟩) (block_lt_of_cell c1)).trans c1
        have c2' : w1.cell? ⟨g, m * 2 + 1, none⟩ = some (.string body) := (hb1.cell (p := ⟨g, m * 2 + 1, none⟩) (block_lt_of_cell c2)).trans c2
        have HB1 := Lib.hid (HB.out.trans (hb1.mono HB.out.size))
        clear hb1 c1 c2 HK1 HK2 HMAY
        have i1 : (0 : Int) ≤ kind := by omega
        have i2 : kind < 256 := by omega
        have i3 : body.size < 254 := by omega
        have i4 : IntKind.i64.wrap ((body.size : Int) + 2) = (body.size : Int) + 2 := IntWalk.i64_in _ (by omega)
        have i5 : IntKind.u8.wrap kind = kind := by rw [IntKind.wrap_u8]; omega
        have i6 : IntKind.u8.wrap ((body.size : Int) + 2) = (body.size : Int) + 2 := by rw [IntKind.wrap_u8]; omega
        have hcv := two_bytes kind body.size i1 i2 i3 (w1.alloc (.cells #[.int .u8 kind, .int .u8 ((body.size : Int) + 2)] 5)).drew w1.heap.size (At.of_new w1 _ _).drew
        obtain ⟨two, e2⟩ : ∃ two : ByteArray, (⟨#[UInt8.ofNat kind.toNat, UInt8.ofNat (2 + body.size)]⟩ : ByteArray) = two := ⟨_, rfl⟩
        rw [e2] at hcv
        have h2s : two.size = 2 := by rw [← e2]; rfl
        have HE2 := Lib.hid e2
        have hg1 : g < w1.heap.size := block_lt_of_cell c1'
        have hcat1 : ¬ 9223372036854775807 < l.size + 2 := by omega
        have hcat2 : ¬ 9223372036854775807 < l.size + 2 + body.size := by omega
        clear e2 q1 q2 q3
        go_upto_region 7 with fail
        go_region
        have HB2 := Lib.hid (((HB1.out.alloc HB1.out.size (.cells #[.int .u8 kind, .int .u8 ((body.size : Int) + 2)] 5))).drew)
        have HS2 := Lib.hid h2s
        clear hcv h2s
        go_wp2_with fail
        refine ⟨⟨m + 1, l ++ two ++ body, by omega, int_eq (by omega), rfl, ?_, ⟨?_, ?_⟩, HB2.out⟩, by simp [intOf]; omega⟩
        · rw [ByteArray.size_append, ByteArray.size_append, HS2.out]; omega
        · have e : xs.take (m + 1) = xs.take m ++ [(kind, body)] := by rw [List.take_add_one, HX.out]; rfl
          rw [e, itemsL_snoc, ← HL.out.1, ByteArray.data_append, Array.toList_append, ByteArray.data_append, Array.toList_append, ← HE2.out]
          simp [itemL]
        · have e : xs.take (m + 1) = xs.take m ++ [(kind, body)] := by rw [List.take_add_one, HX.out]; rfl
          rw [e]
          intro x hx
          rcases List.mem_append.1 hx with hx | hx
          · exact HL.out.2 x hx
          · rw [List.mem_singleton.1 hx]; exact HM.out
      · have HMAY := Lib.hid (may_any kind body wr false (mayB_no hmay))
        have HT : Hid (t = ⟨#[]⟩ ∧ k = 2) := by
          have h := HR.out
          unfold layI at h
          rw [if_neg (fun hall => hmay (hall _ hmem.out))] at h
          exact ⟨(Prod.mk.inj h).1.symm, (Prod.mk.inj h).2.symm⟩
        clear hmay hmem HL HK1 HK2
        go_wp2_with fail
        refine HMAY.out.mono ?_
        rintro e w1 ⟨rfl, hb1⟩
        have HB1 := Lib.hid (HB.out.trans (hb1.mono HB.out.size))
        clear hb1
        go_wp2_with fail
        go_ret2
        exact ⟨by rw [HT.out.1, HT.out.2]; rfl, HB1.out⟩
    · have hall : Hid (l.data.toList = itemsL xs ∧ (∀ x ∈ xs, mayI x)) := by
        have e : xs.take m = xs := List.take_of_length_le (by rw [HN.out]; omega)
        have h := HL.out
        rw [e] at h
        exact h
      have HR2 : Hid ((if 40 < l.size then ((⟨#[]⟩ : ByteArray), 6) else (⟨(padL l.data.toList).toArray⟩, 0)) = (t, k)) := by
        have h := HR.out
        unfold layI at h
        rw [if_pos hall.out.2, ← hall.out.1, bytes_len] at h
        exact h
      have hl255 : l.size ≤ 255000 := by omega
      have hge : ¬ m < n := hlt
      clear HL HR HC HN hall hlz
      by_cases h40 : 40 < l.size
      · have e1 : decide (40 < (l.size : Int)) = true := by simp; omega
        have HT : Hid (t = ⟨#[]⟩ ∧ k = 6) := by
          have h := HR2.out
          rw [if_pos h40] at h
          exact ⟨(Prod.mk.inj h).1.symm, (Prod.mk.inj h).2.symm⟩
        clear HR2
        go_wp2_with fail
        go_ret2
        exact ⟨by rw [HT.out.1, HT.out.2]; rfl, HB.out⟩
      · have e1 : decide (40 < (l.size : Int)) = false := by simp; omega
        have HT : Hid ((⟨(padL l.data.toList).toArray⟩ : ByteArray) = t ∧ 0 = k) := by
          have h := HR2.out
          rw [if_neg h40] at h
          exact ⟨(Prod.mk.inj h).1, (Prod.mk.inj h).2⟩
        clear HR2
        obtain ⟨L, eL⟩ : ∃ L, l.size = L := ⟨_, rfl⟩
        have HLl := Lib.hid eL
        have hL40 : L ≤ 40 := by omega
        go_wp2_with fail
        go_loop [4] (fun b => ∃ (j : Nat) (c : ByteArray), j ≤ padN L ∧ b = .string c ∧ c.size ≤ L + j ∧ L + j ≤ c.size ∧ Hid (c.data.toList = l.data.toList ++ List.replicate j 0)) (fun b => match b with | .string c => L + 4 - c.size | _ => 0)
        case atStart => exact ⟨0, l, Nat.zero_le _, rfl, by omega, by omega, by show l.data.toList = _; simp⟩
        case round =>
          obtain ⟨j, c, hj, rfl, hc1, hc2, HC⟩ := hrel
          have hp4 : padN L ≤ 3 := by unfold padN; omega
          by_cases hmod : (L + j) % 4 = 0
          · have e2 : ((c.size : Int) % 4 == 0) = true := by rw [beq_iff_eq]; omega
            have e2' : ((c.size : Int) % 4 != 0) = false := by rw [bne_eq_false_iff_eq]; omega
            have hjp : j = padN L := by unfold padN at hj ⊢; omega
            have HJ := Lib.hid hjp
            clear hjp eL
            go_wp2_with fail
            go_ret2
            refine ⟨?_, HB.out⟩
            have e : c = t := by
              rw [← HT.out.1]
              apply ba_ext
              rw [HC.out, HJ.out]
              unfold padL
              rw [bytes_len, HLl.out]
            rw [e, ← HT.out.2]; rfl
          · have e2 : ((c.size : Int) % 4 == 0) = false := by rw [beq_eq_false_iff_ne]; omega
            have e2' : ((c.size : Int) % 4 != 0) = true := by rw [bne_iff_ne]; omega
            have hjlt : j < padN L := by
              rcases Nat.lt_or_ge j (padN L) with h | h
              · exact h
              · exfalso; unfold padN at h hj; omega
            have hcat : ¬ 9223372036854775807 < c.size + 1 := by omega
            clear eL
            go_wp2_with fail
            have h1s : (⟨#[0]⟩ : ByteArray).size = 1 := rfl
            refine ⟨⟨j + 1, c ++ ⟨#[0]⟩, hjlt, rfl, by rw [ByteArray.size_append, h1s]; omega, by rw [ByteArray.size_append, h1s]; omega, ?_⟩, by simp [ByteArray.size_append, h1s]; omega⟩
            show (c ++ ⟨#[0]⟩).data.toList = _
            rw [ByteArray.data_append, Array.toList_append, HC.out, List.replicate_succ', List.append_assoc]
end Go.Proofs.YtbbkinldfpphdaaGreatDoor
