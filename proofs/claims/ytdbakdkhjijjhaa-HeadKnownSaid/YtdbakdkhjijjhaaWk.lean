/- The chapter's examples, walked. -/
import Derived.Test.YtdbakdkhjijjhaaFi
import Derived.Test.YtdbakdkhjijjhaaLg
namespace Go.Proofs.Ytdbakdkhjijjhaa
open Go.RowKit Pl

def chapS : ByteArray := ⟨#[0, 1, 0, 2, 0, 0, 0, 3, 0, 0, 0, 4, 80, 18, 0, 5, 78, 222, 0, 0, 97]⟩
def chapC : List Value := [.int .i64 0, .int .u16 1, .int .u16 2, .int .u32 3, .int .u32 4, .bool true, .bool true, .bool false, .bool false, .int .u16 5, .string ⟨#[]⟩, .string ⟨#[97]⟩]

set_option maxHeartbeats 1000000 in
theorem chapter_any (w : World) :
    Calls Try.prog 16 #[] w fun e w' => e = .returned (.tuple #[.agg chapC.toArray, .string chapS]) ∧ Below w.heap.size w w' := by
  go_enter Try.func16, Try.ntmps16
  go_wp2
  exact bodyPost_ret (v := .tuple #[.agg chapC.toArray, .string chapS]) (by simp [chapC, chapS, results, Try.results16, go_sem]) rfl ⟨rfl, (Below.refl _ _).alloc (Nat.le_refl _) _⟩

set_option maxHeartbeats 1000000 in
theorem refused_any (s : ByteArray) (k : Nat) (w : World) (hz : s.size ≤ 9223372036854775807) (hk : k ≠ 0) (h : rightL s.data.toList = k) :
    Calls Try.prog 17 #[.string s, .int .i64 k] w fun e w' => e = .returned (.bool true) ∧ Below w.heap.size w w' := by
  have HP : Hid (∀ w, Calls Try.prog 14 #[.string s] w fun e w' => e = .returned (.tuple #[.agg zeroC.toArray, .int .i64 k]) ∧ Below w.heap.size w w') := by
    intro w
    have := parse_bad s w hz (by rw [h]; exact hk)
    rwa [h] at this
  clear h hk
  go_enter Try.func17, Try.ntmps17
  go_wp2_with (go_at_call 14; refine (HP.out _).mono ?_; rintro e w1 ⟨rfl, hb1⟩; unfold zeroC)
  go_ret
  exact ⟨rfl, hb1.alloc hb1.size _⟩

theorem chap_lay (w : World) : Calls Try.prog 9 #[.agg #[.int .i64 0, .int .u16 1, .int .u16 2, .int .u32 3, .int .u32 4, .bool true, .bool true, .bool false, .bool false, .int .u16 5, .string ⟨#[]⟩, .string ⟨#[97]⟩]] w fun e w' => e = .returned (.tuple #[.string chapS, .int .i64 0]) ∧ Below w.heap.size w w' := by
  have := lay_good 0 1 2 3 4 true true false false 5 ⟨#[]⟩ ⟨#[97]⟩ w (by decide) (by decide) (by decide) (by decide) (by decide) (by decide) (by decide) (by decide)
  have e : (⟨(segL 1 2 3 4 (fl true true false false 4) 5 (⟨#[]⟩ : ByteArray).data.toList (⟨#[97]⟩ : ByteArray).data.toList).toArray⟩ : ByteArray) = chapS := ba_ext (by decide +kernel)
  rw [e] at this
  exact this
theorem chap_odd (w : World) : Calls Try.prog 9 #[.agg #[.int .i64 0, .int .u16 1, .int .u16 2, .int .u32 3, .int .u32 4, .bool true, .bool true, .bool false, .bool false, .int .u16 5, .string ⟨#[97, 98, 99]⟩, .string ⟨#[97]⟩]] w fun e w' => e = .returned (.tuple #[.string ⟨#[]⟩, .int .i64 6]) ∧ Below w.heap.size w w' :=
  lay_bad 0 1 2 3 4 true true false false 5 ⟨#[97, 98, 99]⟩ ⟨#[97]⟩ w (by decide) (by decide) (.inr (.inl (by decide)))
theorem chap_parse (w : World) : Calls Try.prog 14 #[.string chapS] w fun e w' => e = .returned (.tuple #[.agg #[.int .i64 0, .int .u16 1, .int .u16 2, .int .u32 3, .int .u32 4, .bool true, .bool true, .bool false, .bool false, .int .u16 5, .string ⟨#[]⟩, .string ⟨#[97]⟩], .int .i64 0]) ∧ Below w.heap.size w w' := by
  have := parse_good chapS w (by decide) (by decide +kernel)
  have e : parseC chapS = [.int .i64 0, .int .u16 1, .int .u16 2, .int .u32 3, .int .u32 4, .bool true, .bool true, .bool false, .bool false, .int .u16 5, .string ⟨#[]⟩, .string ⟨#[97]⟩] := by
    have e1 : pf chapS 0 2 = 1 := by decide +kernel
    have e2 : pf chapS 2 4 = 2 := by decide +kernel
    have e3 : pf chapS 4 8 = 3 := by decide +kernel
    have e4 : pf chapS 8 12 = 4 := by decide +kernel
    have e5 : pf chapS 14 16 = 5 := by decide +kernel
    have e6 : bn chapS.data.toList 13 = 18 := by decide +kernel
    have e7 : bn chapS.data.toList 12 = 80 := by decide +kernel
    have e8 : chapS.extract 20 20 = ⟨#[]⟩ := ba_ext (by decide +kernel)
    have e9 : chapS.extract 20 21 = ⟨#[97]⟩ := ba_ext (by decide +kernel)
    have e10 : chapS.size = 21 := by decide
    unfold parseC
    rw [e1, e2, e3, e4, e5, e6, e7, e10, show 80 / 4 = 20 by rfl, e8, e9]
    rfl
  rw [e] at this
  exact this
theorem chap_long (w : World) : Calls Try.prog 11 #[.agg #[.int .i64 0, .int .u16 1, .int .u16 2, .int .u32 3, .int .u32 4, .bool true, .bool true, .bool false, .bool false, .int .u16 5, .string ⟨#[]⟩, .string ⟨#[97]⟩]] w fun e w' => e = .returned (.int .i64 2) ∧ Below w.heap.size w w' :=
  long_any _ _ _ _ _ _ true true false false ⟨#[]⟩ ⟨#[97]⟩ w
theorem chap_ref1 (w : World) : Calls Try.prog 17 #[.string (chapS.extract 0 20 ++ ⟨#[98]⟩), .int .i64 10] w fun e w' => e = .returned (.bool true) ∧ Below w.heap.size w w' :=
  refused_any _ 10 w (by decide +kernel) (by decide) (by decide +kernel)
theorem chap_ref2 (w : World) : Calls Try.prog 17 #[.string (chapS.extract 0 19), .int .i64 4] w fun e w' => e = .returned (.bool true) ∧ Below w.heap.size w w' :=
  refused_any _ 4 w (by decide +kernel) (by decide) (by decide +kernel)

set_option maxHeartbeats 4000000 in
theorem works_any (w : World) :
    Calls Try.prog 12 #[] w fun e w' => e = .returned (.bool true) ∧ Below w.heap.size w w' := by
  have hs21 : chapS.size = 21 := by decide
  go_enter Try.func12, Try.ntmps12
  go_wp2_with (go_at_call 16; refine (chapter_any _).mono ?_; rintro e w1 ⟨rfl, hb1⟩; unfold chapC)
  go_wp2_with (go_at_call 9; refine (chap_lay _).mono ?_; rintro e w2 ⟨rfl, hb2⟩; have hx2 := (At.of_new w1 25 _).kept hb2; obtain ⟨f, d0, d1, d2, d3, d4, d5, d6, d7, d8, d9, d10, d11⟩ := hx2.cells12)
  go_wp2_with (go_at_call 14; refine (chap_parse _).mono ?_; rintro e w3 ⟨rfl, hb3⟩; have hx3 := hx2.kept hb3; have hl3 := hx3.lt; obtain ⟨f, d0, d1, d2, d3, d4, d5, d6, d7, d8, d9, d10, d11⟩ := hx3.cells12)
  go_wp2_with (go_at_call 9; refine (chap_odd _).mono ?_; rintro e w4 ⟨rfl, hb4⟩; have hx4 := ((hx3.alloc _).alloc _).kept hb4; have hy4 := ((At.of_new w3 25 _).alloc _).kept hb4; have hl4 := hx4.lt; have hm4 := hy4.lt; obtain ⟨f, d0, d1, d2, d3, d4, d5, d6, d7, d8, d9, d10, d11⟩ := hx4.cells12; obtain ⟨f', c0, c1, c2, c3, c4, c5, c6, c7, c8, c9, c10, c11⟩ := hy4.cells12)
  refine (chap_ref1 _).mono ?_
  rintro e w5 ⟨rfl, hb5⟩
  have hx5 := hx4.kept hb5
  clear d0 d1 d2 d3 d4 d5 d6 d7 d8 d9 d10 d11 f c0 c1 c2 c3 c4 c5 c6 c7 c8 c9 c10 c11 f'
  go_wp2_with fail
  refine (chap_ref2 _).mono ?_
  rintro e w6 ⟨rfl, hb6⟩
  have hx6 := hx5.kept hb6
  obtain ⟨f, d0, d1, d2, d3, d4, d5, d6, d7, d8, d9, d10, d11⟩ := hx6.cells12
  go_wp2_with fail
  refine (chap_long _).mono ?_
  rintro e w7 ⟨rfl, hb7⟩
  go_wp2_with fail
  go_ret
  have k1 := hb1.alloc (o := .cells #[.int .i64 0, .int .u16 1, .int .u16 2, .int .u32 3, .int .u32 4, .bool true, .bool true, .bool false, .bool false, .int .u16 5, .string ⟨#[]⟩, .string ⟨#[97]⟩] 25) hb1.size
  have k2 := k1.trans (hb2.mono k1.size)
  have k3 := k2.trans (hb3.mono k2.size)
  have k4 := k3.alloc (o := .cells #[.int .i64 0, .int .u16 1, .int .u16 2, .int .u32 3, .int .u32 4, .bool true, .bool true, .bool false, .bool false, .int .u16 5, .string ⟨#[]⟩, .string ⟨#[97]⟩] 25) k3.size
  have k5 := k4.alloc (o := .cells #[.int .i64 0, .int .u16 1, .int .u16 2, .int .u32 3, .int .u32 4, .bool true, .bool true, .bool false, .bool false, .int .u16 5, .string ⟨#[97, 98, 99]⟩, .string ⟨#[97]⟩] 25) k4.size
  have k6 := k5.trans (hb4.mono k5.size)
  have k7 := k6.trans (hb5.mono k6.size)
  have k8 := k7.trans (hb6.mono k7.size)
  exact ⟨rfl, k8.trans (hb7.mono k8.size)⟩

end Go.Proofs.Ytdbakdkhjijjhaa
