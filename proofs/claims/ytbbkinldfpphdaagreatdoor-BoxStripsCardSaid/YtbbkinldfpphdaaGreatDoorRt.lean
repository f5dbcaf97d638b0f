/- head.right walked: what is wrong with bytes. -/
import Derived.Test.YtbbkinldfpphdaaGreatDoorOf
import Derived.Test.YtbbkinldfpphdaaGreatDoorHd
import Derived.Deep.DeepCutAuto
import Derived.Lib.Strings
namespace Go.Proofs.YtbbkinldfpphdaaGreatDoor
open Go.RowKit Pl

theorem bn_get (s : ByteArray) (k : Nat) (h : k < s.size) : (s[k]'h).toNat = bn s.data.toList k := by
  unfold bn
  rw [List.getD_eq_getElem?_getD, List.getElem?_eq_getElem (by rw [Array.length_toList]; exact h)]
  rfl

theorem ext_two (s : ByteArray) (k : Nat) (h : k + 1 < s.size) : (s.extract k (k + 2)).toList = [s.data.toList.getD k 0, s.data.toList.getD (k + 1) 0] := by
  have hl : s.data.toList.length = s.size := bytes_len s
  rw [Lib.extract_toList, show k + 2 - k = 2 by omega, List.drop_eq_getElem_cons (by omega), List.drop_eq_getElem_cons (by omega)]
  simp only [List.take_succ_cons, List.take_zero, List.getD_eq_getElem?_getD]
  rw [List.getElem?_eq_getElem (by omega), List.getElem?_eq_getElem (by omega)]
  rfl
theorem u8_zero (x : UInt8) : x = 0 ↔ x.toNat = 0 := ⟨fun h => by rw [h]; rfl, fun h => UInt8.toNat_inj.1 h⟩

theorem right_short (s : ByteArray) (w : World) (h : s.size < 20) :
    Calls Tryz.prog 26 #[.string s] w fun e w' => e = .returned (.int .i64 4) ∧ Below w.heap.size w w' := by
  go_enter Tryz.func26, Tryz.ntmps26
  go_wp2
  go_ret
  exact ⟨rfl, Below.refl _ _⟩

set_option maxHeartbeats 2000000 in
theorem right_long (s : ByteArray) (w : World) (h : 20 ≤ s.size) (hz : s.size ≤ 9223372036854775807) :
    Calls Tryz.prog 26 #[.string s] w fun e w' => e = .returned (.int .i64 (rightL s.data.toList : Nat)) ∧ Below w.heap.size w w' := by
  have h12 : 12 < s.size := by omega
  have h13 : 13 < s.size := by omega
  have i0 : ∀ (w : World), (Instr.index 65 (.agg #[.int .u8 1, .int .u8 2, .int .u8 4, .int .u8 16]) (.int .i64 0)).run Tryz.prog w = .ok (.int .u8 1) w := fun _ => by kernel_rfl
  have i1 : ∀ (w : World), (Instr.index 65 (.agg #[.int .u8 1, .int .u8 2, .int .u8 4, .int .u8 16]) (.int .i64 1)).run Tryz.prog w = .ok (.int .u8 2) w := fun _ => by kernel_rfl
  have i2 : ∀ (w : World), (Instr.index 65 (.agg #[.int .u8 1, .int .u8 2, .int .u8 4, .int .u8 16]) (.int .i64 2)).run Tryz.prog w = .ok (.int .u8 4) w := fun _ => by kernel_rfl
  have i3 : ∀ (w : World), (Instr.index 65 (.agg #[.int .u8 1, .int .u8 2, .int .u8 4, .int .u8 16]) (.int .i64 3)).run Tryz.prog w = .ok (.int .u8 16) w := fun _ => by kernel_rfl
  have o0 : bits .or .u8 0 1 = 1 := by decide
  have o1 : bits .or .u8 1 2 = 3 := by decide
  have o2 : bits .or .u8 3 4 = 7 := by decide
  have o3 : bits .or .u8 7 16 = 23 := by decide
  go_enter Tryz.func26, Tryz.ntmps26
  go_wp2_with (go_at_call 20; refine (bits_any _).mono ?_; rintro e w1 ⟨rfl, hb1⟩)
  refine wp_loop_rounds 5 ?_
  rw [rounds_succ]
  go_wp2
  rw [rounds_succ]
  go_wp2
  rw [rounds_succ]
  go_wp2
  rw [rounds_succ]
  go_wp2
  rw [rounds_succ]
  go_upto_region 9 with fail
  clear i0 i1 i2 i3 o0 o1 o2 o3
  obtain ⟨b12, g12⟩ : ∃ b, (s[12]'h12).toNat = b := ⟨_, rfl⟩
  obtain ⟨b13, g13⟩ : ∃ b, (s[13]'h13).toNat = b := ⟨_, rfl⟩
  have hb12 : b12 < 256 := by rw [← g12]; exact s[12].toNat_lt
  have hb13 : b13 < 256 := by rw [← g13]; exact s[13].toNat_lt
  have E12 := Lib.hid (bn_get s 12 h12)
  have E13 := Lib.hid (bn_get s 13 h13)
  have E18 := Lib.hid (bn_get s 18 (by omega))
  have E19 := Lib.hid (bn_get s 19 (by omega))
  have G12 := Lib.hid g12
  have G13 := Lib.hid g13
  have hn : s.data.toList.length = s.size := bytes_len s
  have HN := Lib.hid hn
  clear hn
  by_cases cA : b12 < 80
  · have hA : decide ((b12 : Int) / 16 * 4 < 20) = true := by simp; omega
    go_wp2
    go_ret
    refine ⟨?_, hb1⟩
    unfold rightL
    rw [HN.out, if_neg (by omega), if_pos (.inl (by rw [← E12.out, G12.out]; exact cA))]
    rfl
  have hA : decide ((b12 : Int) / 16 * 4 < 20) = false := by simp; omega
  have hand : bits .and .u8 (b12 : Int) 15 = ((b12 % 16 : Nat) : Int) := by
    have := u8_and_nat b12 15 hb12 (by omega)
    rw [nat_mask4] at this; exact this
  by_cases cB : b12 % 16 = 0
  case neg =>
    have hB : (((b12 % 16 : Nat) : Int) == 0) = false := by simp; omega
    go_wp2
    go_ret
    refine ⟨?_, hb1⟩
    unfold rightL
    rw [HN.out, if_neg (by omega), if_pos (.inr (by rw [← E12.out, G12.out]; exact cB))]
    rfl
  have hB1 : ((b12 : Int) % 16 == 0) = true := by simp; omega
  have hB2 : ((b12 : Int) % 16 != 0) = false := by simp; omega
  have hq : b12 / 16 * 4 = b12 / 4 := by omega
  have R2 : ¬ (bn s.data.toList 12 < 80 ∨ bn s.data.toList 12 % 16 ≠ 0) := by rw [← E12.out, G12.out]; omega
  have HR2 := Lib.hid R2
  have HQ := Lib.hid hq
  clear R2 hq
  by_cases cC : s.size < b12 / 4
  · have hC : decide ((s.size : Int) < (b12 : Int) / 16 * 4) = true := by simp; omega
    go_wp2
    go_ret
    refine ⟨?_, hb1⟩
    unfold rightL
    rw [HN.out, if_neg (by omega), if_neg HR2.out, if_pos (by rw [← E12.out, G12.out]; exact cC)]
    rfl
  have hC : decide ((s.size : Int) < (b12 : Int) / 16 * 4) = false := by simp; omega
  have hnot : bits .andNot .u8 (b13 : Int) 23 = ((b13 &&& 232 : Nat) : Int) := u8_andNot_nat b13 23 hb13 (by omega)
  have hfm : (b13 &&& 232 = 0 ↔ (b13 / 32 = 0 ∧ b13 / 8 % 2 = 0)) := flags_mask ⟨b13, hb13⟩
  have HFM := Lib.hid hfm
  clear hfm
  obtain ⟨m13, hm13⟩ : ∃ m, b13 &&& 232 = m := ⟨_, rfl⟩
  rw [hm13] at hnot
  have HM13 := Lib.hid hm13
  clear hm13
  by_cases cD : m13 = 0
  case neg =>
    have hD1 : ((m13 : Int) == 0) = false := by simp; omega
    have hD2 : ((m13 : Int) != 0) = true := by simp; omega
    go_wp2
    go_ret
    refine ⟨?_, hb1⟩
    unfold rightL
    have hx : b13 / 32 ≠ 0 ∨ b13 / 8 % 2 ≠ 0 := by
      have h1 := HFM.out
      rw [HM13.out] at h1
      omega
    rw [HN.out, if_neg (by omega), if_neg HR2.out, if_neg (by rw [← E12.out, G12.out]; exact cC), if_pos (by rw [← E13.out, G13.out]; omega)]
    rfl
  have hD1 : ((m13 : Int) == 0) = true := by simp; omega
  have hD2 : ((m13 : Int) != 0) = false := by simp; omega
  have hx : ¬ (b13 / 32 ≠ 0 ∨ b13 / 8 % 2 ≠ 0) := by
    have h1 := HFM.out
    rw [HM13.out] at h1
    omega
  have HX := Lib.hid hx
  clear hx
  have hext := ext_two s 18 (by omega)
  by_cases cE : bn s.data.toList 18 = 0 ∧ bn s.data.toList 19 = 0
  case neg =>
    have hE : ((s.extract 18 20).toList == [0, 0]) = false := by
      rw [hext, beq_eq_false_iff_ne]
      intro hh
      simp only [List.cons.injEq, and_true] at hh
      exact cE ⟨(u8_zero _).1 hh.1, (u8_zero _).1 hh.2⟩
    have CE := Lib.hid cE
    clear hext cE
    go_wp2
    go_ret
    refine ⟨?_, hb1⟩
    unfold rightL
    rw [HN.out, if_neg (by omega), if_neg HR2.out, if_neg (by rw [← E12.out, G12.out]; exact cC), if_pos (by have := CE.out; omega)]
    rfl
  have hE : ((s.extract 18 20).toList == [0, 0]) = true := by
    rw [hext, beq_iff_eq]
    simp only [List.cons.injEq, and_true]
    exact ⟨(u8_zero _).2 cE.1, (u8_zero _).2 cE.2⟩
  have R4 : ¬ (bn s.data.toList 13 / 32 ≠ 0 ∨ bn s.data.toList 13 / 8 % 2 ≠ 0 ∨ bn s.data.toList 18 ≠ 0 ∨ bn s.data.toList 19 ≠ 0) := by
    have h1 := HX.out
    rw [← E13.out, G13.out]
    omega
  have HR4 := Lib.hid R4
  clear R4 hext cE
  by_cases cF : 1024 < s.size - b12 / 4
  · have hF : decide (1024 < (s.size : Int) - (b12 : Int) / 16 * 4) = true := by simp; omega
    go_wp2
    go_ret
    refine ⟨?_, hb1⟩
    unfold rightL
    rw [HN.out, if_neg (by omega), if_neg HR2.out, if_neg (by rw [← E12.out, G12.out]; exact cC), if_neg HR4.out, if_pos (by rw [← E12.out, G12.out]; exact cF)]
    rfl
  have hF : decide (1024 < (s.size : Int) - (b12 : Int) / 16 * 4) = false := by simp; omega
  have hsz : s.size ≤ 1100 := by omega
  have HWh : Hid (∀ (W : World) (pb : Nat) (t : TypeId), At W pb t ([s].map Value.string) →
      Calls Tryz.prog 39 #[.slice (some ⟨pb, 0, none⟩) 1 1] W fun e w' => e = .returned (.bool (decide (fold (sumL s.data.toList) = 65535))) ∧ Below W.heap.size W w') := by
    intro W pb t hA
    have hfl : flat [s] = s.data.toList := by simp [flat]
    have := whole_any pb 1 1 t [s] W rfl hA (fun x hx => by
      simp only [List.mem_cons, List.not_mem_nil, or_false] at hx
      subst hx; omega) (by omega) (by rw [hfl, HN.out]; omega)
    rw [hfl] at this
    exact this
  have HF := Lib.hid cF
  have HC2 := Lib.hid cC
  by_cases cG : fold (sumL s.data.toList) = 65535
  · rw [decide_eq_true cG] at HWh
    have HG := Lib.hid cG
    clear cG cF cC
    go_wp2_with (go_at_call 39; refine (HWh.out _ _ _ (by exact At.of_new _ _ _)).mono ?_; rintro e w2 ⟨rfl, hb2⟩)
    go_ret
    refine ⟨?_, (hb1.alloc hb1.size _).trans (hb2.mono (by have := hb1.size; simp; omega))⟩
    unfold rightL
    rw [HN.out, if_neg (by omega), if_neg HR2.out, if_neg (by rw [← E12.out, G12.out]; exact HC2.out), if_neg HR4.out, if_neg (by rw [← E12.out, G12.out]; exact HF.out), if_neg (by simp [HG.out])]
    rfl
  · rw [decide_eq_false cG] at HWh
    have HG := Lib.hid cG
    clear cG cF cC
    go_wp2_with (go_at_call 39; refine (HWh.out _ _ _ (by exact At.of_new _ _ _)).mono ?_; rintro e w2 ⟨rfl, hb2⟩)
    go_ret
    refine ⟨?_, (hb1.alloc hb1.size _).trans (hb2.mono (by have := hb1.size; simp; omega))⟩
    unfold rightL
    rw [HN.out, if_neg (by omega), if_neg HR2.out, if_neg (by rw [← E12.out, G12.out]; exact HC2.out), if_neg HR4.out, if_neg (by rw [← E12.out, G12.out]; exact HF.out), if_pos HG.out]
    rfl

theorem right_any (s : ByteArray) (w : World) (hz : s.size ≤ 9223372036854775807) :
    Calls Tryz.prog 26 #[.string s] w fun e w' => e = .returned (.int .i64 (rightL s.data.toList : Nat)) ∧ Below w.heap.size w w' := by
  by_cases h : s.size < 20
  · have e : rightL s.data.toList = 4 := by unfold rightL; rw [if_pos (by rw [bytes_len]; exact h)]
    rw [e]; exact right_short s w h
  · exact right_long s w (by omega) hz

end Go.Proofs.YtbbkinldfpphdaaGreatDoor
