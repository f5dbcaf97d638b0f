/- HeadByte walked. -/
import Derived.Test.YtdbakdkhjijjhaaPz
import Derived.Test.YtdbakdkhjijjhaaSh
import Derived.Test.YtdbakdkhjijjhaaBy
namespace Go.Proofs.Ytdbakdkhjijjhaa
open Go.RowKit Pl

theorem xor_other (x b : Nat) (hx : x < 256) : ∃ z : Nat, bits .xor .u8 (x : Int) (1 + (b : Int) % 255) = (z : Int) ∧ z < 256 ∧ z ≠ x := by
  have e : (1 + (b : Int) % 255) = ((1 + b % 255 : Nat) : Int) := by omega
  have h1 : 1 + b % 255 < 256 := by omega
  refine ⟨x ^^^ (1 + b % 255), by rw [e]; exact u8_xor_nat x (1 + b % 255) hx h1, Nat.xor_lt_two_pow (n := 8) hx h1, fun h => ?_⟩
  have := congrArg (fun y => x ^^^ y) h
  simp only [← Nat.xor_assoc, Nat.xor_self, Nat.zero_xor] at this
  omega

set_option maxHeartbeats 4000000 in
theorem headByte_any (sa sd sl : Nat) (path : Int) (src dst seq ack : Nat) (syn ackOn fin rst : Bool) (win : Nat) (area data : ByteArray) (at_ by_ : Nat) (w : World)
    (g0 : sa < 256) (g1 : sd < 65536) (g2 : sl < 256) (g3 : at_ < 65536) (g4 : by_ < 256)
    (h0 : src < 65536) (h1 : dst < 65536) (h2 : seq < 4294967296) (h3 : ack < 4294967296) (h4 : win < 65536) :
    Calls Try.prog 6 #[.agg (segC path src dst seq ack syn ackOn fin rst win area data).toArray, .agg #[.int .u8 sa, .int .u16 sd, .int .u8 sl], .int .u16 at_, .int .u8 by_] w fun e w' =>
      e = .returned (.bool true) ∧ Below w.heap.size w w' := by
  have HF : Hid (∀ w, Calls Try.prog 8 #[.agg #[.int .u8 sa, .int .u16 sd, .int .u8 sl], .agg (segC path src dst seq ack syn ackOn fin rst win area data).toArray] w fun e w' =>
      e = .returned (.agg (segC path src dst seq ack syn ackOn fin rst win (fillA sa sl) (fillD sd sl)).toArray) ∧ Below w.heap.size w w') := fun w => filled_any sa sd sl path src dst seq ack syn ackOn fin rst win area data w g0 g1 g2
  have z1 := fillA_size sa sl
  have z2 := fillD_size sd sl
  obtain ⟨a', ea⟩ : ∃ a, fillA sa sl = a := ⟨_, rfl⟩
  obtain ⟨d', ed⟩ : ∃ d, fillD sd sl = d := ⟨_, rfl⟩
  rw [ea, ed] at HF
  rw [ea] at z1
  rw [ed] at z2
  clear ea ed
  by_cases hbad : 40 < a'.size ∨ 1024 < d'.size
  · have HL : Hid (∀ w, Calls Try.prog 9 #[.agg (segC path src dst seq ack syn ackOn fin rst win a' d').toArray] w fun e w' => e = .returned (.tuple #[.string ⟨#[]⟩, .int .i64 6]) ∧ Below w.heap.size w w') :=
      fun w => lay_bad path src dst seq ack syn ackOn fin rst win a' d' w (by omega) (by omega) (by omega)
    clear z1 z2 h0 h1 h2 h3 h4 g0 g1 g2 g3 g4 hbad
    unfold segC
    unfold segC at HL HF
    go_enter Try.func6, Try.ntmps6
    go_wp2_with fail
    have hS : Sh w ((w.alloc (.cells #[.int .i64 path, .int .u16 src, .int .u16 dst, .int .u32 seq, .int .u32 ack, .bool syn, .bool ackOn, .bool fin, .bool rst, .int .u16 win, .string area, .string data] 25)).alloc (.cells #[.int .u8 sa, .int .u16 sd, .int .u8 sl] 27)) [.int .i64 path, .int .u16 src, .int .u16 dst, .int .u32 seq, .int .u32 ack, .bool syn, .bool ackOn, .bool fin, .bool rst, .int .u16 win, .string area, .string data] [.int .u8 sa, .int .u16 sd, .int .u8 sl] :=
      ⟨(At.of_new w _ _).alloc _, At.new1 (At.of_new _ _ _) (by simp), ((Below.refl _ w).alloc (Nat.le_refl _) _).alloc (by simp) _⟩
    refine (works_any _).mono ?_
    rintro e w1 ⟨rfl, hb1⟩
    have hS1 := hS.kept hb1
    clear hS hb1
    obtain ⟨f, d0, d1, d2, d3, d4, d5, d6, d7, d8, d9, d10, d11⟩ := hS1.1.cells12
    have c0 := hS1.2.1.cell 0
    have c1 := hS1.2.1.cell 1
    have c2 := hS1.2.1.cell 2
    have HB := Lib.hid hS1.2.2
    simp only [List.getElem?_cons_zero, List.getElem?_cons_succ] at c0 c1 c2
    clear hS1
    go_wp2_with fail
    refine (HF.out _).mono ?_
    rintro e w2 ⟨rfl, hb2⟩
    have HB2 := Lib.hid (HB.out.trans (hb2.mono HB.out.size))
    clear hb2 f d0 d1 d2 d3 d4 d5 d6 d7 d8 d9 d10 d11 c0 c1 c2
    go_wp2_with fail
    refine (HL.out _).mono ?_
    rintro e w3 ⟨rfl, hb3⟩
    have HB3 := Lib.hid (HB2.out.trans (hb3.mono HB2.out.size))
    clear hb3
    go_wp2_with fail
    go_ret
    exact ⟨rfl, HB3.out⟩
  · have HL : Hid (∀ w, Calls Try.prog 9 #[.agg (segC path src dst seq ack syn ackOn fin rst win a' d').toArray] w fun e w' => e = .returned (.tuple #[.string (segS src dst seq ack syn ackOn fin rst win a' d'), .int .i64 0]) ∧ Below w.heap.size w w') :=
      fun w => lay_good path src dst seq ack syn ackOn fin rst win a' d' w h0 h1 h2 h3 h4 (by omega) (by omega) (by omega)
    have zS := segS_size src dst seq ack syn ackOn fin rst win a' d'
    have fS : fold (sumL (segS src dst seq ack syn ackOn fin rst win a' d').data.toList) = 65535 := by rw [segS_data]; exact segL_sum _ _ _ _ _ _ _ _
    obtain ⟨S, eS⟩ : ∃ S, segS src dst seq ack syn ackOn fin rst win a' d' = S := ⟨_, rfl⟩
    rw [eS] at HL zS fS
    have zlo : 20 ≤ S.size := by omega
    have zhi : S.size ≤ 1084 := by omega
    clear z1 z2 h0 h1 h2 h3 h4 g0 g1 g2 hbad zS eS
    obtain ⟨m, hm⟩ : ∃ m, at_ % S.size = m := ⟨_, rfl⟩
    have hm2 : m < S.size := by have := Nat.mod_lt at_ (show 0 < S.size by omega); omega
    have hne : ¬ S = ByteArray.empty := by rintro rfl; simp at zlo
    have t1 : IntKind.i64.wrap (at_ : Int) = at_ := IntWalk.i64_in _ (by omega)
    have t3 : (at_ : Int).tmod (S.size : Int) = (m : Int) := by
      rw [Int.tmod_eq_emod_of_nonneg (by omega), ← hm]; rfl
    have t3' : (at_ : Int) % (S.size : Int) = (m : Int) := by rw [← hm]; rfl
    have hn : S.data.toList.length = S.size := bytes_len S
    have hm2' : m < S.data.toList.length := by omega
    obtain ⟨z, hz1, hz2, hz3⟩ := xor_other (S.data[m]'(by simpa using hm2')).toNat by_ (UInt8.toNat_lt _)
    obtain ⟨T, eT⟩ : ∃ T : ByteArray, (⟨(S.data.toList.set m (UInt8.ofNat z)).toArray⟩ : ByteArray) = T := ⟨_, rfl⟩
    have hT : rightL T.data.toList ≠ 0 := by
      rw [← eT]
      refine byte_wrong S.data.toList m (UInt8.ofNat z) hm2' fS (fun h => hz3 ?_)
      rw [List.getD_eq_getElem?_getD, List.getElem?_eq_getElem hm2', Option.getD_some, Array.getElem_toList] at h
      have := congrArg UInt8.toNat h
      rwa [UInt8.toNat_ofNat', Nat.mod_eq_of_lt (by omega)] at this
    have zT : T.size = S.size := by rw [← eT, size_ba, List.length_set, hn]
    obtain ⟨k, ek⟩ : ∃ k, rightL T.data.toList = k := ⟨_, rfl⟩
    have HP : Hid (∀ w, Calls Try.prog 14 #[.string T] w fun e w' => e = .returned (.tuple #[.agg #[.int .i64 0, .int .u16 0, .int .u16 0, .int .u32 0, .int .u32 0, .bool false, .bool false, .bool false, .bool false, .int .u16 0, .string ⟨#[]⟩, .string ⟨#[]⟩], .int .i64 k]) ∧ Below w.heap.size w w') := by
      intro w
      have := parse_bad T w (by omega) hT
      rwa [ek] at this
    rw [ek] at hT
    have k1 : ((k : Int) == 0) = false := by simp; omega
    have k2 : ((k : Int) != 0) = true := by simp; omega
    have HT := Lib.hid eT
    have hxx := hz1
    clear ek fS zT eT hm hT hz3 hz1
    unfold segC
    unfold segC at HL HF
    go_enter Try.func6, Try.ntmps6
    go_wp2_with fail
    have hS : Sh w ((w.alloc (.cells #[.int .i64 path, .int .u16 src, .int .u16 dst, .int .u32 seq, .int .u32 ack, .bool syn, .bool ackOn, .bool fin, .bool rst, .int .u16 win, .string area, .string data] 25)).alloc (.cells #[.int .u8 sa, .int .u16 sd, .int .u8 sl] 27)) [.int .i64 path, .int .u16 src, .int .u16 dst, .int .u32 seq, .int .u32 ack, .bool syn, .bool ackOn, .bool fin, .bool rst, .int .u16 win, .string area, .string data] [.int .u8 sa, .int .u16 sd, .int .u8 sl] :=
      ⟨(At.of_new w _ _).alloc _, At.new1 (At.of_new _ _ _) (by simp), ((Below.refl _ w).alloc (Nat.le_refl _) _).alloc (by simp) _⟩
    refine (works_any _).mono ?_
    rintro e w1 ⟨rfl, hb1⟩
    have hS1 := hS.kept hb1
    clear hS hb1
    obtain ⟨f, d0, d1, d2, d3, d4, d5, d6, d7, d8, d9, d10, d11⟩ := hS1.1.cells12
    have c0 := hS1.2.1.cell 0
    have c1 := hS1.2.1.cell 1
    have c2 := hS1.2.1.cell 2
    have HB := Lib.hid hS1.2.2
    simp only [List.getElem?_cons_zero, List.getElem?_cons_succ] at c0 c1 c2
    clear hS1
    go_wp2_with fail
    refine (HF.out _).mono ?_
    rintro e w2 ⟨rfl, hb2⟩
    have HB2 := Lib.hid (HB.out.trans (hb2.mono HB.out.size))
    clear hb2 f d0 d1 d2 d3 d4 d5 d6 d7 d8 d9 d10 d11 c0 c1 c2
    go_wp2_with fail
    refine (HL.out _).mono ?_
    rintro e w3 ⟨rfl, hb3⟩
    have HB3 := Lib.hid (HB2.out.trans (hb3.mono HB2.out.size))
    clear hb3
    obtain ⟨c, V, hV, hBf, hbV, hsz⟩ := bytes_conv w3 S
    have d20 : decide ((S.size : Int) < 20) = false := by simp; omega
    go_upto_region 9 with fail
    have HBV := Lib.hid (HB3.out.trans (hbV.mono HB3.out.size))
    have HBf := Lib.hid hBf
    have hcy := hBf.cell m hm2'
    have hcf := hBf.frozen m hm2'
    have hsz2 : w3.heap.size < V.heap.size := by omega
    clear hBf hbV hsz
    go_upto_region 10 with fail
    have h5 : Bf (V.setCell ⟨w3.heap.size, m, none⟩ (.int .u8 (z : Int))) w3.heap.size (S.data.toList.set m (UInt8.ofNat z)) := by
      have := HBf.out.set_ m z (by omega) (by omega)
      rwa [Int.toNat_natCast] at this
    have HB5 := HBV.out.setCell (p := ⟨w3.heap.size, m, none⟩) HB3.out.size (.int .u8 (z : Int))
    obtain ⟨W5, hW5⟩ : ∃ W5, V.setCell ⟨w3.heap.size, m, none⟩ (.int .u8 (z : Int)) = W5 := ⟨_, rfl⟩
    rw [hW5] at h5 HB5 ⊢
    have hcv := bytes_back h5 S.size c (by simp)
    rw [HT.out] at hcv
    have HB6 := Lib.hid HB5
    clear hW5 h5 HB5 hcy hcf hsz2 hV HBf HBV hxx
    go_wp2_with fail
    refine (HP.out _).mono ?_
    rintro e w6 ⟨rfl, hb6⟩
    have HB7 := Lib.hid (HB6.out.trans (hb6.mono HB6.out.size))
    clear hb6 hcv
    go_wp2_with fail
    go_ret
    exact ⟨rfl, HB7.out.alloc HB7.out.size _⟩
end Go.Proofs.Ytdbakdkhjijjhaa
