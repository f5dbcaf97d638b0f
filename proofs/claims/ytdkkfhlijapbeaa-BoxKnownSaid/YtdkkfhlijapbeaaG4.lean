/- BoxKnown, walked. -/
import Derived.Test.YtdkkfhlijapbeaaG3
import Derived.Test.YtdkkfhlijapbeaaMk
namespace Go.Proofs.Ytdkkfhlijapbeaa
open Go.RowKit Pl Go.Shelf
attribute [local go_sem ↓] Go.wp_at_zero Go.wp_at_succ

set_option maxRecDepth 20000 in
set_option maxHeartbeats 8000000 in
theorem boxKnown_any (w : World) : Calls Try.prog 7 #[] w fun e w' => e = .returned (.bool true) ∧ Below w.heap.size w w' := by
  have L_kSyn : Hid (∀ w, Calls Try.prog 18 #[kSyn.v] w fun e w' => e = .returned (.string kSyn.bytes) ∧ Below w.heap.size w w') := fun w => by
    exact klay_ok kSyn kSyn_ok w
  have L_kRst : Hid (∀ w, Calls Try.prog 18 #[kRst.v] w fun e w' => e = .returned (.string kRst.bytes) ∧ Below w.heap.size w w') := fun w => by
    exact klay_ok kRst kRst_ok w
  have L_kFin : Hid (∀ w, Calls Try.prog 18 #[kFin.v] w fun e w' => e = .returned (.string kFin.bytes) ∧ Below w.heap.size w w') := fun w => by
    exact klay_ok kFin kFin_ok w
  have L_kPl : Hid (∀ w, Calls Try.prog 18 #[kPl.v] w fun e w' => e = .returned (.string kPl.bytes) ∧ Below w.heap.size w w') := fun w => by
    exact klay_ok kPl kPl_ok w
  have L_k1 : Hid (∀ w, Calls Try.prog 18 #[k1.v] w fun e w' => e = .returned (.string k1.bytes) ∧ Below w.heap.size w w') := fun w => by
    exact klay_ok k1 k1_ok w
  have L_k5s : Hid (∀ w, Calls Try.prog 18 #[k5s.v] w fun e w' => e = .returned (.string k5s.bytes) ∧ Below w.heap.size w w') := fun w => by
    exact klay_ok k5s k5s_ok w
  have L_k5r : Hid (∀ w, Calls Try.prog 18 #[k5r.v] w fun e w' => e = .returned (.string k5r.bytes) ∧ Below w.heap.size w w') := fun w => by
    exact klay_ok k5r k5r_ok w
  have L_k5a : Hid (∀ w, Calls Try.prog 18 #[k5a.v] w fun e w' => e = .returned (.string k5a.bytes) ∧ Below w.heap.size w w') := fun w => by
    exact klay_ok k5a k5a_ok w
  have L_k5d : Hid (∀ w, Calls Try.prog 18 #[k5d.v] w fun e w' => e = .returned (.string k5d.bytes) ∧ Below w.heap.size w w') := fun w => by
    exact klay_ok k5d k5d_ok w
  have L_k5f : Hid (∀ w, Calls Try.prog 18 #[k5f.v] w fun e w' => e = .returned (.string k5f.bytes) ∧ Below w.heap.size w w') := fun w => by
    exact klay_ok k5f k5f_ok w
  have L_kMost : Hid (∀ w, Calls Try.prog 18 #[kMost.v] w fun e w' => e = .returned (.string kMost.bytes) ∧ Below w.heap.size w w') := fun w => by
    exact klay_ok kMost kMost_ok w
  have L_kA : Hid (∀ w, Calls Try.prog 18 #[kA.v] w fun e w' => e = .returned (.string kA.bytes) ∧ Below w.heap.size w w') := fun w => by
    exact klay_ok kA kA_ok w
  have L_kZ : Hid (∀ w, Calls Try.prog 18 #[kZ.v] w fun e w' => e = .returned (.string kZ.bytes) ∧ Below w.heap.size w w') := fun w => by
    exact klay_ok kZ kZ_ok w
  have L_kW : Hid (∀ w, Calls Try.prog 18 #[kW.v] w fun e w' => e = .returned (.string kW.bytes) ∧ Below w.heap.size w w') := fun w => by
    exact klay_ok kW kW_ok w
  have I_kC : Hid (∀ w, Calls Try.prog 19 #[.string kC.bytes, kC.v] w fun e w' => e = .returned (.bool true) ∧ Below w.heap.size w w') := fun w => by
    exact is_yes _ kC w (bytes_le _ kC_ok) (read_bytes _ kC_ok).2 (read_bytes _ kC_ok).1
  have I_kD : Hid (∀ w, Calls Try.prog 19 #[.string kD.bytes, kD.v] w fun e w' => e = .returned (.bool true) ∧ Below w.heap.size w w') := fun w => by
    exact is_yes _ kD w (bytes_le _ kD_ok) (read_bytes _ kD_ok).2 (read_bytes _ kD_ok).1
  have I_kM : Hid (∀ w, Calls Try.prog 19 #[.string kM.bytes, kM.v] w fun e w' => e = .returned (.bool true) ∧ Below w.heap.size w w') := fun w => by
    exact is_yes _ kM w (bytes_le _ kM_ok) (read_bytes _ kM_ok).2 (read_bytes _ kM_ok).1
  have I_kMost : Hid (∀ w, Calls Try.prog 19 #[.string kMost.bytes, kMost.v] w fun e w' => e = .returned (.bool true) ∧ Below w.heap.size w w') := fun w => by
    exact is_yes _ kMost w (bytes_le _ kMost_ok) (read_bytes _ kMost_ok).2 (read_bytes _ kMost_ok).1
  have Pa : Hid (∀ w, Calls Try.prog 14 #[.string kSyn.bytes, .int .i64 1] w fun e w' => e = .returned (.tuple #[.string ⟨#[]⟩, .string ⟨#[]⟩, .int .i64 2]) ∧ Below w.heap.size w w') := fun w => by
    have := split_any kSyn.bytes 1 w (bytes_le kSyn kSyn_ok); rw [k_a] at this; exact this
  have Pb : Hid (∀ w, Calls Try.prog 14 #[.string kRst.bytes, .int .i64 1] w fun e w' => e = .returned (.tuple #[.string ⟨#[]⟩, .string ⟨#[]⟩, .int .i64 2]) ∧ Below w.heap.size w w') := fun w => by
    have := split_any kRst.bytes 1 w (bytes_le kRst kRst_ok); rw [k_b] at this; exact this
  have Pe : Hid (∀ w, Calls Try.prog 14 #[.string kFin.bytes, .int .i64 1] w fun e w' => e = .returned (.tuple #[.string kC.bytes, .string kD.bytes, .int .i64 0]) ∧ Below w.heap.size w w') := fun w => by
    have := split_any kFin.bytes 1 w (bytes_le kFin kFin_ok); rw [k_e] at this; exact this
  have Pf : Hid (∀ w, Calls Try.prog 14 #[.string kPl.bytes, .int .i64 0] w fun e w' => e = .returned (.tuple #[.string ⟨#[]⟩, .string ⟨#[]⟩, .int .i64 2]) ∧ Below w.heap.size w w') := fun w => by
    have := split_any kPl.bytes 0 w (bytes_le kPl kPl_ok); rw [k_f] at this; exact this
  have Pg : Hid (∀ w, Calls Try.prog 14 #[.string kPl.bytes, .int .i64 (-9223372036854775808)] w fun e w' => e = .returned (.tuple #[.string ⟨#[]⟩, .string ⟨#[]⟩, .int .i64 2]) ∧ Below w.heap.size w w') := fun w => by
    have := split_any kPl.bytes (-9223372036854775808) w (bytes_le kPl kPl_ok); rw [k_g] at this; exact this
  have Mh : Hid (∀ w, Calls Try.prog 16 #[.string kFin.bytes, .string k1.bytes] w fun e w' => e = .returned (.tuple #[.string ⟨#[]⟩, .int .i64 2]) ∧ Below w.heap.size w w') := fun w => by
    have := merge_call kFin.bytes k1.bytes w (bytes_le kFin kFin_ok) (bytes_le k1 k1_ok); rw [k_h] at this; exact this
  have Mi : Hid (∀ w, Calls Try.prog 16 #[.string kPl.bytes, .string k5s.bytes] w fun e w' => e = .returned (.tuple #[.string ⟨#[]⟩, .int .i64 2]) ∧ Below w.heap.size w w') := fun w => by
    have := merge_call kPl.bytes k5s.bytes w (bytes_le kPl kPl_ok) (bytes_le k5s k5s_ok); rw [k_i] at this; exact this
  have Mj : Hid (∀ w, Calls Try.prog 16 #[.string kPl.bytes, .string k5r.bytes] w fun e w' => e = .returned (.tuple #[.string ⟨#[]⟩, .int .i64 2]) ∧ Below w.heap.size w w') := fun w => by
    have := merge_call kPl.bytes k5r.bytes w (bytes_le kPl kPl_ok) (bytes_le k5r k5r_ok); rw [k_j] at this; exact this
  have Mk : Hid (∀ w, Calls Try.prog 16 #[.string kPl.bytes, .string k5a.bytes] w fun e w' => e = .returned (.tuple #[.string ⟨#[]⟩, .int .i64 2]) ∧ Below w.heap.size w w') := fun w => by
    have := merge_call kPl.bytes k5a.bytes w (bytes_le kPl kPl_ok) (bytes_le k5a k5a_ok); rw [k_k] at this; exact this
  have Ml : Hid (∀ w, Calls Try.prog 16 #[.string kPl.bytes, .string k5d.bytes] w fun e w' => e = .returned (.tuple #[.string ⟨#[]⟩, .int .i64 2]) ∧ Below w.heap.size w w') := fun w => by
    have := merge_call kPl.bytes k5d.bytes w (bytes_le kPl kPl_ok) (bytes_le k5d k5d_ok); rw [k_l] at this; exact this
  have Mn : Hid (∀ w, Calls Try.prog 16 #[.string kPl.bytes, .string k5f.bytes] w fun e w' => e = .returned (.tuple #[.string kM.bytes, .int .i64 0]) ∧ Below w.heap.size w w') := fun w => by
    have := merge_call kPl.bytes k5f.bytes w (bytes_le kPl kPl_ok) (bytes_le k5f k5f_ok); rw [k_n] at this; exact this
  have Mo : Hid (∀ w, Calls Try.prog 16 #[.string kMost.bytes, .string kA.bytes] w fun e w' => e = .returned (.tuple #[.string ⟨#[]⟩, .int .i64 2]) ∧ Below w.heap.size w w') := fun w => by
    have := merge_call kMost.bytes kA.bytes w (bytes_le kMost kMost_ok) (bytes_le kA kA_ok); rw [k_o] at this; exact this
  have Mp : Hid (∀ w, Calls Try.prog 16 #[.string kMost.bytes, .string kZ.bytes] w fun e w' => e = .returned (.tuple #[.string kMost.bytes, .int .i64 0]) ∧ Below w.heap.size w w') := fun w => by
    have := merge_call kMost.bytes kZ.bytes w (bytes_le kMost kMost_ok) (bytes_le kZ kZ_ok); rw [k_p] at this; exact this
  have Mq : Hid (∀ w, Calls Try.prog 16 #[.string ⟨#[]⟩, .string ⟨#[]⟩] w fun e w' => e = .returned (.tuple #[.string ⟨#[]⟩, .int .i64 4]) ∧ Below w.heap.size w w') := fun w => by
    have := merge_call ⟨#[]⟩ ⟨#[]⟩ w (by decide) (by decide); rw [k_q] at this; exact this
  have Mr : Hid (∀ w, Calls Try.prog 16 #[.string kPl.bytes, .string ⟨#[120]⟩] w fun e w' => e = .returned (.tuple #[.string ⟨#[]⟩, .int .i64 4]) ∧ Below w.heap.size w w') := fun w => by
    have := merge_call kPl.bytes ⟨#[120]⟩ w (bytes_le kPl kPl_ok) (by decide); rw [k_r] at this; exact this
  have Et : Hid (∀ w, Calls Try.prog 17 #[.string kPl.bytes, .int .i64 2, .int .i64 1] w fun e w' => e = .returned (.tuple #[.string ⟨#[]⟩, .int .i64 2]) ∧ Below w.heap.size w w') := fun w => by
    have := edit_any kPl.bytes 2 1 w (bytes_le kPl kPl_ok); rw [k_t] at this; exact this
  have Eu : Hid (∀ w, Calls Try.prog 17 #[.string kPl.bytes, .int .i64 (-1), .int .i64 1] w fun e w' => e = .returned (.tuple #[.string ⟨#[]⟩, .int .i64 2]) ∧ Below w.heap.size w w') := fun w => by
    have := edit_any kPl.bytes (-1) 1 w (bytes_le kPl kPl_ok); rw [k_u] at this; exact this
  have Ev : Hid (∀ w, Calls Try.prog 17 #[.string ⟨#[115, 104, 111, 114, 116]⟩, .int .i64 0, .int .i64 1] w fun e w' => e = .returned (.tuple #[.string ⟨#[]⟩, .int .i64 4]) ∧ Below w.heap.size w w') := fun w => by
    have := edit_any ⟨#[115, 104, 111, 114, 116]⟩ 0 1 w (by decide); rw [k_v] at this; exact this
  have Ey : Hid (∀ w, Calls Try.prog 17 #[.string kPl.bytes, .int .i64 0, .int .i64 (-9223372036854775808)] w fun e w' => e = .returned (.tuple #[.string kPl.bytes, .int .i64 0]) ∧ Below w.heap.size w w') := fun w => by
    have := edit_any kPl.bytes 0 (-9223372036854775808) w (bytes_le kPl kPl_ok); rw [k_y] at this; exact this
  have Sw : Hid (∀ w, Calls Try.prog 20 #[.string kW.bytes] w fun e w' => e = .returned (.tuple #[.string ⟨#[]⟩, .int .i64 5]) ∧ Below w.heap.size w w') := fun w => by
    have := strip_any kW.bytes w (bytes_le kW kW_ok); rw [k_w] at this; exact this
  have WK : Hid (∀ w, Calls Try.prog 12 #[] w fun e w' => e = .returned (.bool true) ∧ Below w.heap.size w w') := fun w => by
    exact works_yes w
  obtain ⟨s_kSyn, h_kSyn⟩ : ∃ s, kSyn.bytes = s := ⟨_, rfl⟩
  rw [h_kSyn] at L_kSyn Pa
  clear h_kSyn
  obtain ⟨s_kRst, h_kRst⟩ : ∃ s, kRst.bytes = s := ⟨_, rfl⟩
  rw [h_kRst] at L_kRst Pb
  clear h_kRst
  obtain ⟨s_kFin, h_kFin⟩ : ∃ s, kFin.bytes = s := ⟨_, rfl⟩
  rw [h_kFin] at L_kFin Pe Mh
  clear h_kFin
  obtain ⟨s_kPl, h_kPl⟩ : ∃ s, kPl.bytes = s := ⟨_, rfl⟩
  rw [h_kPl] at L_kPl Pf Pg Mi Mj Mk Ml Mn Mr Et Eu Ey
  clear h_kPl
  obtain ⟨s_kC, h_kC⟩ : ∃ s, kC.bytes = s := ⟨_, rfl⟩
  rw [h_kC] at Pe I_kC
  clear h_kC
  obtain ⟨s_kD, h_kD⟩ : ∃ s, kD.bytes = s := ⟨_, rfl⟩
  rw [h_kD] at Pe I_kD
  clear h_kD
  obtain ⟨s_k1, h_k1⟩ : ∃ s, k1.bytes = s := ⟨_, rfl⟩
  rw [h_k1] at L_k1 Mh
  clear h_k1
  obtain ⟨s_k5s, h_k5s⟩ : ∃ s, k5s.bytes = s := ⟨_, rfl⟩
  rw [h_k5s] at L_k5s Mi
  clear h_k5s
  obtain ⟨s_k5r, h_k5r⟩ : ∃ s, k5r.bytes = s := ⟨_, rfl⟩
  rw [h_k5r] at L_k5r Mj
  clear h_k5r
  obtain ⟨s_k5a, h_k5a⟩ : ∃ s, k5a.bytes = s := ⟨_, rfl⟩
  rw [h_k5a] at L_k5a Mk
  clear h_k5a
  obtain ⟨s_k5d, h_k5d⟩ : ∃ s, k5d.bytes = s := ⟨_, rfl⟩
  rw [h_k5d] at L_k5d Ml
  clear h_k5d
  obtain ⟨s_k5f, h_k5f⟩ : ∃ s, k5f.bytes = s := ⟨_, rfl⟩
  rw [h_k5f] at L_k5f Mn
  clear h_k5f
  obtain ⟨s_kM, h_kM⟩ : ∃ s, kM.bytes = s := ⟨_, rfl⟩
  rw [h_kM] at Mn I_kM
  clear h_kM
  obtain ⟨s_kMost, h_kMost⟩ : ∃ s, kMost.bytes = s := ⟨_, rfl⟩
  rw [h_kMost] at L_kMost Mo Mp I_kMost
  clear h_kMost
  obtain ⟨s_kA, h_kA⟩ : ∃ s, kA.bytes = s := ⟨_, rfl⟩
  rw [h_kA] at L_kA Mo
  clear h_kA
  obtain ⟨s_kZ, h_kZ⟩ : ∃ s, kZ.bytes = s := ⟨_, rfl⟩
  rw [h_kZ] at L_kZ Mp
  clear h_kZ
  obtain ⟨s_kW, h_kW⟩ : ∃ s, kW.bytes = s := ⟨_, rfl⟩
  rw [h_kW] at L_kW Sw
  clear h_kW
  go_enter Try.func7, Try.ntmps7
  have B_0 := Lib.hid (Below.refl w.heap.size w)
  go_wp2_with fail
  refine (L_kSyn.out _).mono ?_
  rintro e w1 ⟨rfl, hb⟩
  have B_1 := Lib.hid (B_0.out.trans (hb.mono B_0.out.size))
  clear hb B_0 L_kSyn
  go_wp2_with fail
  refine (L_kRst.out _).mono ?_
  rintro e w2 ⟨rfl, hb⟩
  have B_2 := Lib.hid (B_1.out.trans (hb.mono B_1.out.size))
  clear hb B_1 L_kRst
  go_wp2_with fail
  refine (L_kFin.out _).mono ?_
  rintro e w3 ⟨rfl, hb⟩
  have B_3 := Lib.hid (B_2.out.trans (hb.mono B_2.out.size))
  clear hb B_2 L_kFin
  go_wp2_with fail
  refine (L_kPl.out _).mono ?_
  rintro e w4 ⟨rfl, hb⟩
  have B_4 := Lib.hid (B_3.out.trans (hb.mono B_3.out.size))
  clear hb B_3 L_kPl
  go_wp2_with fail
  refine (Pa.out _).mono ?_
  rintro e w5 ⟨rfl, hb⟩
  have B_5 := Lib.hid (B_4.out.trans (hb.mono B_4.out.size))
  clear hb B_4 Pa
  go_wp2_with fail
  refine (Pb.out _).mono ?_
  rintro e w6 ⟨rfl, hb⟩
  have B_6 := Lib.hid (B_5.out.trans (hb.mono B_5.out.size))
  clear hb B_5 Pb
  go_wp2_with fail
  refine (Pe.out _).mono ?_
  rintro e w7 ⟨rfl, hb⟩
  have B_7 := Lib.hid (B_6.out.trans (hb.mono B_6.out.size))
  clear hb B_6 Pe
  go_wp2_with fail
  refine (Pf.out _).mono ?_
  rintro e w8 ⟨rfl, hb⟩
  have B_8 := Lib.hid (B_7.out.trans (hb.mono B_7.out.size))
  clear hb B_7 Pf
  go_wp2_with fail
  refine (Pg.out _).mono ?_
  rintro e w9 ⟨rfl, hb⟩
  have B_9 := Lib.hid (B_8.out.trans (hb.mono B_8.out.size))
  clear hb B_8 Pg
  go_wp2_with fail
  refine (I_kC.out _).mono ?_
  rintro e w10 ⟨rfl, hb⟩
  have B_10 := Lib.hid (B_9.out.trans (hb.mono B_9.out.size))
  clear hb B_9 I_kC
  go_wp2_with fail
  refine (I_kD.out _).mono ?_
  rintro e w11 ⟨rfl, hb⟩
  have B_11 := Lib.hid (B_10.out.trans (hb.mono B_10.out.size))
  clear hb B_10 I_kD
  go_wp2_with fail
  refine (L_k1.out _).mono ?_
  rintro e w12 ⟨rfl, hb⟩
  have B_12 := Lib.hid (B_11.out.trans (hb.mono B_11.out.size))
  clear hb B_11 L_k1
  go_wp2_with fail
  refine (Mh.out _).mono ?_
  rintro e w13 ⟨rfl, hb⟩
  have B_13 := Lib.hid (B_12.out.trans (hb.mono B_12.out.size))
  clear hb B_12 Mh
  go_wp2_with fail
  refine (L_k5s.out _).mono ?_
  rintro e w14 ⟨rfl, hb⟩
  have B_14 := Lib.hid (B_13.out.trans (hb.mono B_13.out.size))
  clear hb B_13 L_k5s
  go_wp2_with fail
  refine (Mi.out _).mono ?_
  rintro e w15 ⟨rfl, hb⟩
  have B_15 := Lib.hid (B_14.out.trans (hb.mono B_14.out.size))
  clear hb B_14 Mi
  go_wp2_with fail
  refine (L_k5r.out _).mono ?_
  rintro e w16 ⟨rfl, hb⟩
  have B_16 := Lib.hid (B_15.out.trans (hb.mono B_15.out.size))
  clear hb B_15 L_k5r
  go_wp2_with fail
  refine (Mj.out _).mono ?_
  rintro e w17 ⟨rfl, hb⟩
  have B_17 := Lib.hid (B_16.out.trans (hb.mono B_16.out.size))
  clear hb B_16 Mj
  go_wp2_with fail
  refine (L_k5a.out _).mono ?_
  rintro e w18 ⟨rfl, hb⟩
  have B_18 := Lib.hid (B_17.out.trans (hb.mono B_17.out.size))
  clear hb B_17 L_k5a
  go_wp2_with fail
  refine (Mk.out _).mono ?_
  rintro e w19 ⟨rfl, hb⟩
  have B_19 := Lib.hid (B_18.out.trans (hb.mono B_18.out.size))
  clear hb B_18 Mk
  go_wp2_with fail
  refine (L_k5d.out _).mono ?_
  rintro e w20 ⟨rfl, hb⟩
  have B_20 := Lib.hid (B_19.out.trans (hb.mono B_19.out.size))
  clear hb B_19 L_k5d
  go_wp2_with fail
  refine (Ml.out _).mono ?_
  rintro e w21 ⟨rfl, hb⟩
  have B_21 := Lib.hid (B_20.out.trans (hb.mono B_20.out.size))
  clear hb B_20 Ml
  go_wp2_with fail
  refine (L_k5f.out _).mono ?_
  rintro e w22 ⟨rfl, hb⟩
  have B_22 := Lib.hid (B_21.out.trans (hb.mono B_21.out.size))
  clear hb B_21 L_k5f
  go_wp2_with fail
  refine (Mn.out _).mono ?_
  rintro e w23 ⟨rfl, hb⟩
  have B_23 := Lib.hid (B_22.out.trans (hb.mono B_22.out.size))
  clear hb B_22 Mn
  go_wp2_with fail
  refine (I_kM.out _).mono ?_
  rintro e w24 ⟨rfl, hb⟩
  have B_24 := Lib.hid (B_23.out.trans (hb.mono B_23.out.size))
  clear hb B_23 I_kM
  have M1 : (Instr.makeSlice 24 (.int .i64 1024) (.int .i64 1024)).run Try.prog w24 = .ok (.slice (some ⟨w24.heap.size, 0, none⟩) 1024 1024) (w24.alloc (.cells (cellsOf (List.replicate 1024 0)).toArray 5)) := make_u8 1024 (by omega) w24
  obtain ⟨wm, hwm⟩ : ∃ wm, w24.alloc (.cells (cellsOf (List.replicate 1024 0)).toArray 5) = wm := ⟨_, rfl⟩
  have C1 : (convert 24 9 (.slice (some ⟨w24.heap.size, 0, none⟩) 1024 1024)).run Try.prog wm = .ok (.string (zz 1024)) wm := by
    rw [conv_str 24 9 5 Try.underlying24 Try.underlying5 Try.underlying9 wm _ _ (List.replicate 1024 0) 0 1024 1024 (by rw [← hwm]; exact At.of_new _ _ _) (by simp), List.drop_zero, List.take_of_length_le (by simp)]; rfl
  have B_m := Lib.hid (show Below w.heap.size w wm by rw [← hwm]; exact B_24.out.alloc B_24.out.size _)
  rw [hwm] at M1
  clear hwm B_24
  go_wp2_with fail
  refine (L_kMost.out _).mono ?_
  rintro e w26 ⟨rfl, hb⟩
  have B_26 := Lib.hid (B_m.out.trans (hb.mono B_m.out.size))
  clear hb B_m M1 C1
  go_wp2_with fail
  refine (L_kA.out _).mono ?_
  rintro e w27 ⟨rfl, hb⟩
  have B_27 := Lib.hid (B_26.out.trans (hb.mono B_26.out.size))
  clear hb B_26 L_kA
  go_wp2_with fail
  refine (Mo.out _).mono ?_
  rintro e w28 ⟨rfl, hb⟩
  have B_28 := Lib.hid (B_27.out.trans (hb.mono B_27.out.size))
  clear hb B_27 Mo
  go_wp2_with fail
  refine (L_kMost.out _).mono ?_
  rintro e w29 ⟨rfl, hb⟩
  have B_29 := Lib.hid (B_28.out.trans (hb.mono B_28.out.size))
  clear hb B_28 L_kMost
  go_wp2_with fail
  refine (L_kZ.out _).mono ?_
  rintro e w30 ⟨rfl, hb⟩
  have B_30 := Lib.hid (B_29.out.trans (hb.mono B_29.out.size))
  clear hb B_29 L_kZ
  go_wp2_with fail
  refine (Mp.out _).mono ?_
  rintro e w31 ⟨rfl, hb⟩
  have B_31 := Lib.hid (B_30.out.trans (hb.mono B_30.out.size))
  clear hb B_30 Mp
  go_wp2_with fail
  refine (Mq.out _).mono ?_
  rintro e w32 ⟨rfl, hb⟩
  have B_32 := Lib.hid (B_31.out.trans (hb.mono B_31.out.size))
  clear hb B_31 Mq
  go_wp2_with fail
  refine (Mr.out _).mono ?_
  rintro e w33 ⟨rfl, hb⟩
  have B_33 := Lib.hid (B_32.out.trans (hb.mono B_32.out.size))
  clear hb B_32 Mr
  go_wp2_with fail
  refine (Et.out _).mono ?_
  rintro e w34 ⟨rfl, hb⟩
  have B_34 := Lib.hid (B_33.out.trans (hb.mono B_33.out.size))
  clear hb B_33 Et
  go_wp2_with fail
  refine (Eu.out _).mono ?_
  rintro e w35 ⟨rfl, hb⟩
  have B_35 := Lib.hid (B_34.out.trans (hb.mono B_34.out.size))
  clear hb B_34 Eu
  go_wp2_with fail
  refine (Ev.out _).mono ?_
  rintro e w36 ⟨rfl, hb⟩
  have B_36 := Lib.hid (B_35.out.trans (hb.mono B_35.out.size))
  clear hb B_35 Ev
  go_wp2_with fail
  refine (L_kW.out _).mono ?_
  rintro e w37 ⟨rfl, hb⟩
  have B_37 := Lib.hid (B_36.out.trans (hb.mono B_36.out.size))
  clear hb B_36 L_kW
  go_wp2_with fail
  refine (Sw.out _).mono ?_
  rintro e w38 ⟨rfl, hb⟩
  have B_38 := Lib.hid (B_37.out.trans (hb.mono B_37.out.size))
  clear hb B_37 Sw
  go_wp2_with fail
  refine (Ey.out _).mono ?_
  rintro e w39 ⟨rfl, hb⟩
  have B_39 := Lib.hid (B_38.out.trans (hb.mono B_38.out.size))
  clear hb B_38 Ey
  go_wp2_with fail
  refine (WK.out _).mono ?_
  rintro e w40 ⟨rfl, hb⟩
  have B_40 := Lib.hid (B_39.out.trans (hb.mono B_39.out.size))
  clear hb B_39 WK
  go_wp2_with fail
  refine (I_kMost.out _).mono ?_
  rintro e w41 ⟨rfl, hb⟩
  have B_41 := Lib.hid (B_40.out.trans (hb.mono B_40.out.size))
  clear hb B_40 I_kMost
  go_wp2_with fail
  go_ret
  exact ⟨rfl, B_41.out⟩
end Go.Proofs.Ytdkkfhlijapbeaa
