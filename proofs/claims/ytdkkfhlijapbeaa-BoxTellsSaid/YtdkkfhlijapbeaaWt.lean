/- BoxTells and BoxOdd: laid, walked. -/
import Derived.Test.YtdkkfhlijapbeaaG2
import Derived.Test.YtdkkfhlijapbeaaSd
import Derived.Test.YtdkkfhlijapbeaaD2
import Derived.Test.YtdkkfhlijapbeaaD3
import Derived.Test.YtdkkfhlijapbeaaD4
import Derived.Test.YtdkkfhlijapbeaaD5
import Derived.Deep.QuietTactic
import Derived.BigQuiet
namespace Go.Proofs.Ytdkkfhlijapbeaa
open Go.RowKit Pl Go.Shelf


/-- Two answers, named. -/
def Two (f : FuncId) (args : Array Value) (t : ByteArray) (k : Nat) : Prop := ∀ w, Calls Try.prog f args w fun e w' => e = .returned (.tuple #[.string t, .int .i64 k]) ∧ Below w.heap.size w w'
def Three (f : FuncId) (args : Array Value) (t u : ByteArray) (k : Nat) : Prop := ∀ w, Calls Try.prog f args w fun e w' => e = .returned (.tuple #[.string t, .string u, .int .i64 k]) ∧ Below w.heap.size w w'

set_option maxRecDepth 20000 in
set_option maxHeartbeats 8000000 in
theorem same_any (s t : ByteArray) (at_ by_ : Int) (w : World) (hz : s.size ≤ 9223372036854775807) (hz2 : t.size ≤ 9223372036854775807) :
    Calls Try.prog 11 #[.string s, .string t, .int .i64 at_, .int .i64 by_] w fun e w' => e = .returned (.bool true) ∧ Below w.heap.size w w' := by
  obtain ⟨a, ka, A1, A2⟩ : ∃ (a : ByteArray) (ka : Nat), Hid (Two 20 #[.string s] a ka) ∧ Hid (Two 26 #[.string s] a ka) :=
    ⟨(stripR s).1, (stripR s).2, fun w => strip_any s w hz, fun w => rstrip_any s w hz⟩
  obtain ⟨c, d, kc, C1, C2⟩ : ∃ (c d : ByteArray) (kc : Nat), Hid (Three 14 #[.string s, .int .i64 at_] c d kc) ∧ Hid (Three 27 #[.string s, .int .i64 at_] c d kc) :=
    ⟨(splitR s at_).1, (splitR s at_).2.1, (splitR s at_).2.2, fun w => split_any s at_ w hz, fun w => rsplit_any s at_ w hz⟩
  obtain ⟨m, km, M1, M2⟩ : ∃ (a : ByteArray) (ka : Nat), Hid (Two 16 #[.string s, .string t] a ka) ∧ Hid (Two 28 #[.string s, .string t] a ka) :=
    ⟨(mergeR s t).1, (mergeR s t).2, fun w => merge_call s t w hz hz2, fun w => rmerge_any s t w hz hz2⟩
  obtain ⟨x, kx, X1, X2⟩ : ∃ (a : ByteArray) (ka : Nat), Hid (Two 17 #[.string s, .int .i64 at_, .int .i64 by_] a ka) ∧ Hid (Two 29 #[.string s, .int .i64 at_, .int .i64 by_] a ka) :=
    ⟨(editR s at_ by_).1, (editR s at_ by_).2, fun w => edit_any s at_ by_ w hz, fun w => redit_any s at_ by_ w hz⟩
  clear hz hz2
  go_enter Try.func11, Try.ntmps11
  go_wp2_with fail
  refine (A1.out _).mono ?_
  rintro e w1 ⟨rfl, hb⟩
  have B1 := Lib.hid hb
  clear hb A1
  go_wp2_with fail
  refine (A2.out _).mono ?_
  rintro e w2 ⟨rfl, hb⟩
  have B2 := Lib.hid (B1.out.trans (hb.mono B1.out.size))
  clear hb A2 B1
  go_wp2_with fail
  refine (C1.out _).mono ?_
  rintro e w3 ⟨rfl, hb⟩
  have B3 := Lib.hid (B2.out.trans (hb.mono B2.out.size))
  clear hb C1 B2
  go_wp2_with fail
  refine (C2.out _).mono ?_
  rintro e w4 ⟨rfl, hb⟩
  have B4 := Lib.hid (B3.out.trans (hb.mono B3.out.size))
  clear hb C2 B3
  go_wp2_with fail
  refine (M1.out _).mono ?_
  rintro e w5 ⟨rfl, hb⟩
  have B5 := Lib.hid (B4.out.trans (hb.mono B4.out.size))
  clear hb M1 B4
  go_wp2_with fail
  refine (M2.out _).mono ?_
  rintro e w6 ⟨rfl, hb⟩
  have B6 := Lib.hid (B5.out.trans (hb.mono B5.out.size))
  clear hb M2 B5
  go_wp2_with fail
  refine (X1.out _).mono ?_
  rintro e w7 ⟨rfl, hb⟩
  have B7 := Lib.hid (B6.out.trans (hb.mono B6.out.size))
  clear hb X1 B6
  go_wp2_with fail
  refine (X2.out _).mono ?_
  rintro e w8 ⟨rfl, hb⟩
  have B8 := Lib.hid (B7.out.trans (hb.mono B7.out.size))
  clear hb X2 B7
  go_wp2_with fail
  go_ret
  exact ⟨rfl, B8.out⟩

attribute [local go_sem ↓] Go.wp_at_zero Go.wp_at_succ

theorem ok_size (x : Sg) (h : x.Ok) : x.bytes.size ≤ 9223372036854775807 := by rw [bytes_size x]; have := h.h5; have := h.h7; omega

set_option maxRecDepth 20000 in
set_option maxHeartbeats 2000000 in
theorem laid_draft (d : Dr) (w : World) (hd : d.Ok w) :
    Calls Try.prog 8 #[d.v] w fun e w' => e = .returned (.string (drSeg d).bytes) ∧ Below w.heap.size w w' := by
  have hDR : ∀ w', Below w.heap.size w w' → Calls Try.prog 9 #[d.v] w' fun e w'' => e = .returned (drSeg d).v ∧ Below w'.heap.size w' w'' := fun w' hb => draft_any d w' (hd.kept hb)
  obtain ⟨hxo, hx100⟩ := drSeg_ok d hd
  have LX := Lib.hid (rlay_ok _ hxo)
  obtain ⟨kb, kn, kc, hkv⟩ := hd.form
  obtain ⟨x, ex⟩ : ∃ x, drSeg d = x := ⟨_, rfl⟩
  rw [ex] at hDR LX ⊢
  obtain ⟨s, es⟩ : ∃ s, x.bytes = s := ⟨_, rfl⟩
  rw [es] at LX ⊢
  have HDR := Lib.hid hDR
  obtain ⟨src, dst, seq, ack, syn, ackOn, fin, rst, win, area, data⟩ := x
  clear hDR ex hxo hx100 es hd
  unfold Dr.v at HDR ⊢
  rw [hkv] at HDR ⊢
  clear hkv
  go_enter Try.func8, Try.ntmps8
  go_wp2_with fail
  have B1 := Lib.hid ((Below.refl w.heap.size w).alloc (Nat.le_refl _) (.cells #[.int .u16 d.src, .int .u16 d.dst, .int .u16 d.win, .int .u32 d.seq, .int .u32 d.ack, .int .u8 d.flags, .slice kb kn kc, .string d.body, .string d.data] 26))
  refine (HDR.out _ B1.out).mono ?_
  unfold Sg.v
  rintro e w2 ⟨rfl, hb⟩
  have B2 := Lib.hid (B1.out.trans (hb.mono B1.out.size))
  clear hb B1 HDR
  go_wp2_with fail
  refine (LX.out _).mono ?_
  rintro e w3 ⟨rfl, hb⟩
  have B3 := Lib.hid (B2.out.trans (hb.mono B2.out.size))
  clear hb B2
  go_wp2_with fail
  go_ret
  exact ⟨rfl, B3.out⟩
end Go.Proofs.Ytdkkfhlijapbeaa
