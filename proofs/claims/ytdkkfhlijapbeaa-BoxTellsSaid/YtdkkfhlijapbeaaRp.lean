/- The document's Parse, walked: bytes that are none. -/
import Derived.Test.YtdkkfhlijapbeaaRl
import Derived.Test.YtdkkfhlijapbeaaLd
import Derived.Test.YtdkkfhlijapbeaaPs
namespace Go.Proofs.Ytdkkfhlijapbeaa
open Go.RowKit Pl

theorem rparse_short (s : ByteArray) (w : World) (h : s.size < 20) :
    Calls Try.prog 49 #[.string s] w fun e w' => e = .returned (.tuple #[.agg zeroC.toArray, .int .i64 (4 : Nat)]) ∧ Below w.heap.size w w' := by
  have h1 : decide ((s.size : Int) < 20) = true := by simp; omega
  go_enter Try.func49, Try.ntmps49
  go_wp2
  exact bodyPost_ret (v := .tuple #[.agg zeroC.toArray, .int .i64 (4 : Nat)]) (by simp [zeroC, results, Try.results49, go_sem]) rfl ⟨rfl, (Below.refl _ _).alloc (Nat.le_refl _) _⟩

set_option maxHeartbeats 4000000 in
theorem rparse_bad (s : ByteArray) (w : World) (hz : s.size ≤ 9223372036854775807) (h : rightL s.data.toList ≠ 0) :
    Calls Try.prog 49 #[.string s] w fun e w' => e = .returned (.tuple #[.agg zeroC.toArray, .int .i64 (rightL s.data.toList : Nat)]) ∧ Below w.heap.size w w' := by
  have hl : s.data.toList.length = s.size := bytes_len s
  by_cases h20 : s.size < 20
  · have e : rightL s.data.toList = 4 := by unfold rightL; rw [if_pos (by rw [hl]; exact h20)]
    rw [e]; exact rparse_short s w h20
  have x0 : decide ((s.size : Int) < 20) = false := by simp; omega
  have h12 : 12 < s.size := by omega
  have h13 : 13 < s.size := by omega
  have h18 : 18 < s.size := by omega
  have h19 : 19 < s.size := by omega
  obtain ⟨b12, g12⟩ : ∃ b, bn s.data.toList 12 = b := ⟨_, rfl⟩
  obtain ⟨b13, g13⟩ : ∃ b, bn s.data.toList 13 = b := ⟨_, rfl⟩
  obtain ⟨b18, g18⟩ : ∃ b, bn s.data.toList 18 = b := ⟨_, rfl⟩
  obtain ⟨b19, g19⟩ : ∃ b, bn s.data.toList 19 = b := ⟨_, rfl⟩
  have a12 : ((s[12]'h12).toNat : Int) = (b12 : Int) := by rw [bn_get s 12 h12, g12]
  have a13 : ((s[13]'h13).toNat : Int) = (b13 : Int) := by rw [bn_get s 13 h13, g13]
  have a18 : ((s[18]'h18).toNat : Int) = (b18 : Int) := by rw [bn_get s 18 h18, g18]
  have a19 : ((s[19]'h19).toNat : Int) = (b19 : Int) := by rw [bn_get s 19 h19, g19]
  have hb12 : b12 < 256 := by have := s[12].toNat_lt; omega
  have hb13 : b13 < 256 := by have := s[13].toNat_lt; omega
  have hR : rightL s.data.toList = if b12 < 80 ∨ b12 % 16 ≠ 0 then 5 else if s.size < b12 / 4 then 4
      else if b13 / 32 ≠ 0 ∨ b13 / 8 % 2 ≠ 0 ∨ b18 ≠ 0 ∨ b19 ≠ 0 then 5 else if 1024 < s.size - b12 / 4 then 6 else if fold (sumL s.data.toList) ≠ 65535 then 10 else 0 := by
    unfold rightL
    rw [hl, if_neg h20, g12, g13, g18, g19]
  obtain ⟨C, hC⟩ : ∃ C, fold (sumL s.data.toList) = C := ⟨_, rfl⟩
  have HO : Hid (s.size ≤ 999999 → ∀ w, Calls Try.prog 25 #[.string s] w fun e w' => e = .returned (.int .u16 (C : Nat)) ∧ Below w.heap.size w w') := by
    intro hs w
    rw [← hC]
    exact rof_any s w hs
  rw [hC] at hR
  rw [hR] at h ⊢
  clear hC hR hl g12 g13 g18 g19 h20
  by_cases c1 : b12 < 80
  · rw [if_pos (.inl c1)]
    have y1 : decide ((b12 : Int) < 80) = true := by simp; omega
    clear h HO
    go_enter Try.func49, Try.ntmps49
    go_wp2
    exact bodyPost_ret (v := .tuple #[.agg zeroC.toArray, .int .i64 (5 : Nat)]) (by simp [zeroC, results, Try.results49, go_sem]) rfl ⟨rfl, (Below.refl _ _).alloc (Nat.le_refl _) _⟩
  have y1 : decide ((b12 : Int) < 80) = false := by simp; omega
  by_cases c2 : b12 % 16 ≠ 0
  · rw [if_pos (.inr c2)]
    have y2 : ((b12 : Int) % 16 == 0) = false := by simp; omega
    have y2' : ((b12 : Int) % 16 != 0) = true := by simp; omega
    clear h HO
    go_enter Try.func49, Try.ntmps49
    go_wp2
    exact bodyPost_ret (v := .tuple #[.agg zeroC.toArray, .int .i64 (5 : Nat)]) (by simp [zeroC, results, Try.results49, go_sem]) rfl ⟨rfl, (Below.refl _ _).alloc (Nat.le_refl _) _⟩
  have y2 : ((b12 : Int) % 16 == 0) = true := by simp; omega
  have y2' : ((b12 : Int) % 16 != 0) = false := by simp; omega
  rw [if_neg (by omega)] at h ⊢
  obtain ⟨q, eq⟩ : ∃ q, b12 / 4 = q := ⟨_, rfl⟩
  have hq : (b12 : Int) / 4 = (q : Int) := by omega
  have hq64 : q ≤ 64 := by omega
  rw [eq] at h ⊢
  clear c1 c2 eq
  by_cases c3 : s.size < q
  · rw [if_pos c3]
    have y3 : decide ((s.size : Int) < (q : Int)) = true := by simp; omega
    clear h HO
    go_enter Try.func49, Try.ntmps49
    go_wp2
    exact bodyPost_ret (v := .tuple #[.agg zeroC.toArray, .int .i64 (4 : Nat)]) (by simp [zeroC, results, Try.results49, go_sem]) rfl ⟨rfl, (Below.refl _ _).alloc (Nat.le_refl _) _⟩
  have y3 : decide ((s.size : Int) < (q : Int)) = false := by simp; omega
  rw [if_neg c3] at h ⊢
  by_cases c4 : b13 / 32 ≠ 0
  · rw [if_pos (.inl c4)]
    have y4 : ((b13 : Int) / 32 == 0) = false := by simp; omega
    have y4' : ((b13 : Int) / 32 != 0) = true := by simp; omega
    clear h HO
    go_enter Try.func49, Try.ntmps49
    go_wp2
    exact bodyPost_ret (v := .tuple #[.agg zeroC.toArray, .int .i64 (5 : Nat)]) (by simp [zeroC, results, Try.results49, go_sem]) rfl ⟨rfl, (Below.refl _ _).alloc (Nat.le_refl _) _⟩
  have y4 : ((b13 : Int) / 32 == 0) = true := by simp; omega
  have y4' : ((b13 : Int) / 32 != 0) = false := by simp; omega
  by_cases c5 : b13 / 8 % 2 ≠ 0
  · rw [if_pos (.inr (.inl c5))]
    have y5 : ((b13 : Int) / 8 % 2 == 0) = false := by simp; omega
    have y5' : ((b13 : Int) / 8 % 2 != 0) = true := by simp; omega
    clear h HO
    go_enter Try.func49, Try.ntmps49
    go_wp2
    exact bodyPost_ret (v := .tuple #[.agg zeroC.toArray, .int .i64 (5 : Nat)]) (by simp [zeroC, results, Try.results49, go_sem]) rfl ⟨rfl, (Below.refl _ _).alloc (Nat.le_refl _) _⟩
  have y5 : ((b13 : Int) / 8 % 2 == 0) = true := by simp; omega
  have y5' : ((b13 : Int) / 8 % 2 != 0) = false := by simp; omega
  by_cases c6 : b18 ≠ 0
  · rw [if_pos (.inr (.inr (.inl c6)))]
    have y6 : ((b18 : Int) == 0) = false := by simp; omega
    have y6' : ((b18 : Int) != 0) = true := by simp; omega
    clear h HO
    go_enter Try.func49, Try.ntmps49
    go_wp2
    exact bodyPost_ret (v := .tuple #[.agg zeroC.toArray, .int .i64 (5 : Nat)]) (by simp [zeroC, results, Try.results49, go_sem]) rfl ⟨rfl, (Below.refl _ _).alloc (Nat.le_refl _) _⟩
  have y6 : ((b18 : Int) == 0) = true := by simp; omega
  have y6' : ((b18 : Int) != 0) = false := by simp; omega
  by_cases c7 : b19 ≠ 0
  · rw [if_pos (.inr (.inr (.inr c7)))]
    have y7 : ((b19 : Int) == 0) = false := by simp; omega
    have y7' : ((b19 : Int) != 0) = true := by simp; omega
    clear h HO
    go_enter Try.func49, Try.ntmps49
    go_wp2
    exact bodyPost_ret (v := .tuple #[.agg zeroC.toArray, .int .i64 (5 : Nat)]) (by simp [zeroC, results, Try.results49, go_sem]) rfl ⟨rfl, (Below.refl _ _).alloc (Nat.le_refl _) _⟩
  have y7 : ((b19 : Int) == 0) = true := by simp; omega
  have y7' : ((b19 : Int) != 0) = false := by simp; omega
  rw [if_neg (by omega)] at h ⊢
  clear c4 c5 c6 c7
  by_cases c8 : 1024 < s.size - q
  · rw [if_pos c8]
    have y8 : decide (1024 < (s.size : Int) - (q : Int)) = true := by simp; omega
    clear h HO
    go_enter Try.func49, Try.ntmps49
    go_wp2
    exact bodyPost_ret (v := .tuple #[.agg zeroC.toArray, .int .i64 (6 : Nat)]) (by simp [zeroC, results, Try.results49, go_sem]) rfl ⟨rfl, (Below.refl _ _).alloc (Nat.le_refl _) _⟩
  have y8 : decide (1024 < (s.size : Int) - (q : Int)) = false := by simp; omega
  rw [if_neg c8] at h ⊢
  by_cases c9 : C = 65535
  · exact absurd (if_neg (by simp [c9])) h
  rw [if_pos c9]
  have y9 : ((C : Int) == 65535) = false := by simp; omega
  have y9' : ((C : Int) != 65535) = true := by simp; omega
  have HO2 := Lib.hid (HO.out (by omega))
  clear HO h c8 c9 hq64
  go_enter Try.func49, Try.ntmps49
  go_wp2_with (go_at_call 25; refine (HO2.out _).mono ?_; rintro e w1 ⟨rfl, hb1⟩; have hA := (At.of_new w 29 #[.int .i64 0, .int .u16 0, .int .u16 0, .int .u32 0, .int .u32 0, .bool false, .bool false, .bool false, .bool false, .int .u16 0, .string ⟨#[]⟩, .string ⟨#[]⟩]).kept hb1; obtain ⟨f, d0, d1, d2, d3, d4, d5, d6, d7, d8, d9, d10, d11⟩ := hA.cells12)
  have hb0 : Below w.heap.size w w1 := ((Below.refl _ w).alloc (Nat.le_refl _) _).trans (hb1.mono (by simp))
  refine chain12 (motive := fun W => bodyPost _ _ _ _ _ W) hA ?_
  intro W2 hA2 hO2
  have hL := seg_loadVar hA2 (by rfl)
  exact bodyPost_ret (v := .tuple #[.agg zeroC.toArray, .int .i64 (10 : Nat)]) (by
    simp [zeroC, results, Try.results49, asAddr, hL]) rfl ⟨rfl, below_only hb0 hO2 hb0.size (Nat.le_refl _)⟩

end Go.Proofs.Ytdkkfhlijapbeaa
