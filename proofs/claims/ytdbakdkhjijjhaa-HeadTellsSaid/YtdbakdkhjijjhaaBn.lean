/- Bytes bent, walked. -/
import Derived.Test.YtdbakdkhjijjhaaBy
namespace Go.Proofs.Ytdbakdkhjijjhaa
open Go.RowKit Pl

theorem bent_none (cut sum : Bool) (at_ by_ : Nat) (w : World) :
    Calls Try.prog 13 #[.agg #[.bool cut, .bool sum, .int .u16 at_, .int .u8 by_], .string ⟨#[]⟩] w fun e w' => e = .returned (.string ⟨#[]⟩) ∧ Below w.heap.size w w' := by
  go_enter Try.func13, Try.ntmps13
  go_wp2
  go_ret
  exact ⟨rfl, (Below.refl _ _).alloc (Nat.le_refl _) _⟩

theorem bent_cut (sum : Bool) (at_ by_ : Nat) (s : ByteArray) (w : World) (h0 : at_ < 65536) (hs : 0 < s.size) (hs2 : s.size ≤ 999999) :
    Calls Try.prog 13 #[.agg #[.bool true, .bool sum, .int .u16 at_, .int .u8 by_], .string s] w fun e w' => e = .returned (.string (s.extract 0 (at_ % (s.size + 1)))) ∧ Below w.heap.size w w' := by
  have h1 : ((s.size : Int) == 0) = false := by rw [beq_eq_false_iff_ne]; omega
  obtain ⟨m, hm⟩ : ∃ m, at_ % (s.size + 1) = m := ⟨_, rfl⟩
  have hm2 : m ≤ s.size := by have := Nat.mod_lt at_ (show 0 < s.size + 1 by omega); omega
  have t1 : IntKind.i64.wrap (at_ : Int) = at_ := IntWalk.i64_in _ (by omega)
  have t2 : IntKind.i64.wrap ((s.size : Int) + 1) = (s.size : Int) + 1 := IntWalk.i64_in _ (by omega)
  have t3 : (at_ : Int).tmod ((s.size : Int) + 1) = (m : Int) := by
    rw [Int.tmod_eq_emod_of_nonneg (by omega), ← hm]; rfl
  have t3' : (at_ : Int) % ((s.size : Int) + 1) = (m : Int) := by rw [← hm]; rfl
  have t4 : ((s.size : Int) + 1 == 0) = false := by rw [beq_eq_false_iff_ne]; omega
  rw [hm]
  clear hm
  go_enter Try.func13, Try.ntmps13
  go_wp2
  go_ret
  exact ⟨rfl, (Below.refl _ _).alloc (Nat.le_refl _) _⟩

/-- Where the call stands: the bend, the bytes, all else as it was. -/
def Sb (w W : World) (cs : List Value) (l : List UInt8) : Prop := At W w.heap.size 37 cs ∧ Bf W (w.heap.size + 1) l ∧ Below w.heap.size w W
theorem Sb.drew {w W : World} {cs : List Value} {l : List UInt8} (h : Sb w W cs l) : Sb w W.drew cs l := ⟨h.1, h.2.1, h.2.2.drew⟩
theorem Sb.set {w W : World} {cs : List Value} {l : List UInt8} (h : Sb w W cs l) (i : Nat) (z : Int) (h0 : 0 ≤ z) (h1 : z < 256) : Sb w (W.setCell ⟨w.heap.size + 1, i, none⟩ (.int .u8 z)) cs (l.set i (UInt8.ofNat z.toNat)) :=
  ⟨h.1.far (by simp) _, h.2.1.set_ i z h0 h1, h.2.2.setCell (p := ⟨w.heap.size + 1, i, none⟩) (by simp) _⟩
/-- A byte to which something is added. -/
def turnL (l : List UInt8) (m by_ : Nat) : List UInt8 := l.set m (UInt8.ofNat (((l.getD m 0).toNat + by_) % 256))
/-- The sum made anew. -/
def anewL (l : List UInt8) : List UInt8 :=
  (((l.set 16 0).set 17 0).set 16 (UInt8.ofNat ((65535 - fold (sumL ((l.set 16 0).set 17 0))) / 256))).set 17 (UInt8.ofNat ((65535 - fold (sumL ((l.set 16 0).set 17 0))) % 256))
theorem anewL_length (l : List UInt8) : (anewL l).length = l.length := by simp [anewL]
theorem turnL_length (l : List UInt8) (m by_ : Nat) : (turnL l m by_).length = l.length := by simp [turnL]
def bentL (sum : Bool) (l : List UInt8) : List UInt8 := if sum = true ∧ 20 ≤ l.length then anewL l else l
theorem bentL_length (sum : Bool) (l : List UInt8) : (bentL sum l).length = l.length := by unfold bentL; split; exact anewL_length l; rfl

set_option maxHeartbeats 4000000 in
theorem bent_turn (sum : Bool) (at_ by_ : Nat) (s : ByteArray) (w : World) (h0 : at_ < 65536) (hb : by_ < 256) (hs : 0 < s.size) (hs2 : s.size ≤ 999999) :
    Calls Try.prog 13 #[.agg #[.bool false, .bool sum, .int .u16 at_, .int .u8 by_], .string s] w fun e w' =>
      e = .returned (.string ⟨(bentL sum (turnL s.data.toList (at_ % s.size) by_)).toArray⟩) ∧ Below w.heap.size w w' := by
  have h1 : ((s.size : Int) == 0) = false := by rw [beq_eq_false_iff_ne]; omega
  have hne : ¬ s = ByteArray.empty := by rintro rfl; simp at hs
  obtain ⟨m, hm⟩ : ∃ m, at_ % s.size = m := ⟨_, rfl⟩
  have hm2 : m < s.size := by have := Nat.mod_lt at_ hs; omega
  have t1 : IntKind.i64.wrap (at_ : Int) = at_ := IntWalk.i64_in _ (by omega)
  have t3 : (at_ : Int).tmod (s.size : Int) = (m : Int) := by
    rw [Int.tmod_eq_emod_of_nonneg (by omega), ← hm]; rfl
  have t3' : (at_ : Int) % (s.size : Int) = (m : Int) := by rw [← hm]; rfl
  obtain ⟨c, V, hV, hBf, hbV, hsz⟩ := bytes_conv (w.alloc (.cells #[.bool false, .bool sum, .int .u16 at_, .int .u8 by_] 37)) s
  have hA := (At.of_new w 37 #[.bool false, .bool sum, .int .u16 at_, .int .u8 by_]).kept hbV
  have hB := ((Below.refl _ w).alloc (Nat.le_refl _) (.cells #[.bool false, .bool sum, .int .u16 at_, .int .u8 by_] 37)).trans (hbV.mono (by simp))
  have hS : Sb w V [.bool false, .bool sum, .int .u16 at_, .int .u8 by_] s.data.toList := ⟨hA, by simpa using hBf, hB⟩
  rw [hm]
  obtain ⟨R, hR⟩ : ∃ R : ByteArray, (⟨(bentL sum (turnL s.data.toList m by_)).toArray⟩ : ByteArray) = R := ⟨_, rfl⟩
  rw [hR]
  have HR := Lib.hid hR
  clear hR
  have hn : s.data.toList.length = s.size := bytes_len s
  have hm2' : m < s.data.toList.length := by omega
  clear hBf hbV hA hB hsz hm
  go_enter Try.func13, Try.ntmps13
  go_upto_region 6 with fail
  refine wp_region_head 11 (fun w' => Sb w w' [.bool false, .bool sum, .int .u16 at_, .int .u8 by_] s.data.toList) (by kernel_rfl) (by kernel_rfl) hS.drew ?_
  simp only [List.take_succ_cons, List.take_zero, List.drop_succ_cons, List.drop_zero]
  clear hS
  iterate 11
    refine wpQuiet_val (v := ?_) (by rfl) (fun w' hw' => ?_) ?_
    rotate_left
    · have hcx := hw'.1.cell
      have hcy := hw'.2.1.cell m hm2'
      clear hw'
      go_simp
      exact rfl
    simp only [Act.put, List.setIfInBounds_toArray, List.set_cons_zero, List.set_cons_succ]
  refine wpQuiet_nil ?_
  intro w' hw'
  have HW := Lib.hid hw'
  have hcy := hw'.2.1.cell m hm2'
  have hcf := hw'.2.1.frozen m hm2'
  have hcs : w'.cell? ⟨w.heap.size, 1, none⟩ = some (.bool sum) := hw'.1.cell 1
  have h20 : Hid (Sb w (w'.setCell ⟨w.heap.size + 1, m, none⟩ (.int .u8 ((↑s.data[m].toNat + ↑by_) % 256))) [.bool false, .bool sum, .int .u16 at_, .int .u8 by_] (turnL s.data.toList m by_)) := by
    have := hw'.set m ((↑s.data[m].toNat + ↑by_) % 256) (by omega) (by omega)
    have e : turnL s.data.toList m by_ = s.data.toList.set m (UInt8.ofNat (((s.data[m].toNat : Int) + by_) % 256).toNat) := by
      unfold turnL
      rw [List.getD_eq_getElem?_getD, List.getElem?_eq_getElem hm2', Option.getD_some, Array.getElem_toList]
      congr 2
    rw [e]; exact this
  clear hw'
  have hl1 : (turnL s.data.toList m by_).length = s.size := by rw [turnL_length, hn]
  obtain ⟨l1, hl⟩ : ∃ l, turnL s.data.toList m by_ = l := ⟨_, rfl⟩
  rw [hl] at h20 hl1 HR
  clear hl
  by_cases hc : sum = true ∧ 20 ≤ s.size
  · obtain ⟨rfl, h20'⟩ := hc
    have eb : bentL true l1 = anewL l1 := by unfold bentL; rw [if_pos ⟨rfl, by omega⟩]
    rw [eb] at HR
    clear eb
    have d20 : decide (20 ≤ (s.size : Int)) = true := by simp; omega
    go_upto_region 8 with fail
    obtain ⟨W, hW⟩ : ∃ W, (w'.setCell ⟨w.heap.size + 1, m, none⟩ (.int .u8 ((↑s.data[m].toNat + ↑by_) % 256))) = W := ⟨_, rfl⟩
    rw [hW] at h20 ⊢
    clear hW hcy hcf hcs HW w'
    have c16 := h20.out.2.1.cell 16 (by omega)
    have c17 := h20.out.2.1.cell 17 (by omega)
    have f16 := h20.out.2.1.frozen 16 (by omega)
    have f17 := h20.out.2.1.frozen 17 (by omega)
    have i16 : (16 : Int) < s.size := by omega
    have i17 : (17 : Int) < s.size := by omega
    go_upto_region 9 with fail
    have h21 : Hid (Sb w ((W.setCell ⟨w.heap.size + 1, 16, none⟩ (.int .u8 0)).setCell ⟨w.heap.size + 1, 17, none⟩ (.int .u8 0)) [.bool false, .bool true, .int .u16 at_, .int .u8 by_] ((l1.set 16 0).set 17 0)) :=
      (h20.out.set 16 0 (by omega) (by omega)).set 17 0 (by omega) (by omega)
    obtain ⟨W2, hW2⟩ : ∃ W2, ((W.setCell ⟨w.heap.size + 1, 16, none⟩ (.int .u8 0)).setCell ⟨w.heap.size + 1, 17, none⟩ (.int .u8 0)) = W2 := ⟨_, rfl⟩
    rw [hW2] at h21 ⊢
    clear hW2 c16 c17 f16 f17 h20 W
    unfold anewL at HR
    obtain ⟨l2, hl2⟩ : ∃ l, (l1.set 16 0).set 17 0 = l := ⟨_, rfl⟩
    have hs2' : l2.length = s.size := by rw [← hl2]; simp [hl1]
    rw [hl2] at h21 HR
    clear hl2 hl1
    have hcv := bytes_back h21.out.2.1 s.size c hs2'.symm
    obtain ⟨t, ht⟩ : ∃ t : ByteArray, (⟨l2.toArray⟩ : ByteArray) = t := ⟨_, rfl⟩
    have htl : t.data.toList = l2 := by rw [← ht]
    have hts : t.size = s.size := by rw [← bytes_len, htl, hs2']
    rw [ht] at hcv
    rw [← htl] at h21 HR
    have K1 := Lib.hid hts
    obtain ⟨n, hn1⟩ : ∃ n, fold (sumL t.data.toList) = n := ⟨_, rfl⟩
    have hn2 : n ≤ 65535 := by rw [← hn1]; exact fold_le _
    have HO : Hid (∀ w, Calls Try.prog 26 #[.string t] w fun e w' => e = .returned (.int .u16 (n : Nat)) ∧ Below w.heap.size w w') := by
      intro w; rw [← hn1]; exact rof_any t w (by omega)
    rw [hn1] at HR
    clear ht htl hts hs2' hn1 l2
    go_wp2_with fail
    refine (HO.out _).mono ?_
    rintro e w1 ⟨rfl, hb1⟩
    have h22 : Hid (Sb w w1 [.bool false, .bool true, .int .u16 at_, .int .u8 by_] t.data.toList) := ⟨h21.out.1.kept hb1, h21.out.2.1.kept hb1, h21.out.2.2.trans (hb1.mono h21.out.2.2.size)⟩
    clear hcv h21 hb1 HO
    go_wp2_with fail
    refine (rnot_any n _ hn2).mono ?_
    rintro e w2 ⟨rfl, rfl⟩
    obtain ⟨k, hk⟩ : ∃ k, 65535 - n = k := ⟨_, rfl⟩
    have hk2 : k ≤ 65535 := by omega
    rw [hk] at HR ⊢
    clear hk hn2
    have hts := K1.out
    have tl : t.data.toList.length = t.size := bytes_len t
    have c16 := h22.out.2.1.cell 16 (by omega)
    have c17 := h22.out.2.1.cell 17 (by omega)
    have f16 := h22.out.2.1.frozen 16 (by omega)
    have f17 := h22.out.2.1.frozen 17 (by omega)
    have h23 : Hid (Sb w ((w1.setCell ⟨w.heap.size + 1, 16, none⟩ (.int .u8 ((k : Int) / 256))).setCell ⟨w.heap.size + 1, 17, none⟩ (.int .u8 ((k : Int) % 256))) [.bool false, .bool true, .int .u16 at_, .int .u8 by_] ((t.data.toList.set 16 (UInt8.ofNat (k / 256))).set 17 (UInt8.ofNat (k % 256)))) := by
      have := (h22.out.set 16 ((k : Int) / 256) (by omega) (by omega)).set 17 ((k : Int) % 256) (by omega) (by omega)
      rw [show ((k : Int) / 256).toNat = k / 256 from by omega, show ((k : Int) % 256).toNat = k % 256 from by omega] at this
      exact this
    clear h22 hts
    go_upto_region 11 with fail
    obtain ⟨W3, hW3⟩ : ∃ W3, (w1.setCell ⟨w.heap.size + 1, 16, none⟩ (.int .u8 ((k : Int) / 256))).setCell ⟨w.heap.size + 1, 17, none⟩ (.int .u8 ((k : Int) % 256)) = W3 := ⟨_, rfl⟩
    rw [hW3] at h23 ⊢
    have hcv := bytes_back h23.out.2.1 s.size c (by simp; rw [← K1.out])
    rw [HR.out] at hcv
    clear c16 c17 f16 f17 hW3
    go_wp2
    go_ret
    exact ⟨rfl, h23.out.2.2⟩
  · have eb : bentL sum l1 = l1 := by unfold bentL; rw [if_neg (by rw [hl1]; exact hc)]
    rw [eb] at HR
    have hcv := bytes_back h20.out.2.1 s.size c hl1.symm
    rw [HR.out] at hcv
    by_cases hsum : sum = true
    · subst hsum
      have hn20 : ¬ 20 ≤ s.size := fun h => hc ⟨rfl, h⟩
      have d20 : decide (20 ≤ (s.size : Int)) = false := by simp; omega
      go_wp2
      go_ret
      exact ⟨rfl, h20.out.2.2⟩
    · have hsf : sum = false := by simpa using hsum
      subst hsf
      go_wp2
      go_ret
      exact ⟨rfl, h20.out.2.2⟩

/-- What bent answers. -/
def bentS (cut sum : Bool) (at_ by_ : Nat) (s : ByteArray) : ByteArray :=
  if s.size = 0 then ⟨#[]⟩ else if cut = true then s.extract 0 (at_ % (s.size + 1)) else ⟨(bentL sum (turnL s.data.toList (at_ % s.size) by_)).toArray⟩
theorem size_ba (l : List UInt8) : (⟨l.toArray⟩ : ByteArray).size = l.length := (bytes_len _).symm
theorem bentS_size (cut sum : Bool) (at_ by_ : Nat) (s : ByteArray) : (bentS cut sum at_ by_ s).size ≤ s.size := by
  unfold bentS
  split
  · exact Nat.zero_le _
  · split
    · rw [ByteArray.size_extract]; omega
    · rw [size_ba, bentL_length, turnL_length, bytes_len]
      omega
theorem bent_any (cut sum : Bool) (at_ by_ : Nat) (s : ByteArray) (w : World) (h0 : at_ < 65536) (hb : by_ < 256) (hs2 : s.size ≤ 999999) :
    Calls Try.prog 13 #[.agg #[.bool cut, .bool sum, .int .u16 at_, .int .u8 by_], .string s] w fun e w' =>
      e = .returned (.string (bentS cut sum at_ by_ s)) ∧ Below w.heap.size w w' := by
  unfold bentS
  by_cases h : s.size = 0
  · rw [if_pos h]
    have : s = ⟨#[]⟩ := ba_ext (List.length_eq_zero_iff.1 ((bytes_len s).trans h))
    subst this
    exact bent_none cut sum at_ by_ w
  · rw [if_neg h]
    cases cut
    · rw [if_neg (by simp)]; exact bent_turn sum at_ by_ s w h0 hb (by omega) hs2
    · rw [if_pos rfl]; exact bent_cut sum at_ by_ s w h0 (by omega) hs2

end Go.Proofs.Ytdbakdkhjijjhaa
