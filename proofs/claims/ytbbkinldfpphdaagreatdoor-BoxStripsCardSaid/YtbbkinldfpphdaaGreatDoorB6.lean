/- box.Edit, box.Split and box.Merge, walked. -/
import Derived.Test.YtbbkinldfpphdaaGreatDoorB5
import Derived.Test.YtbbkinldfpphdaaGreatDoorRf
import Derived.Deep.QuietTactic
import Derived.BigQuiet
namespace Go.Proofs.YtbbkinldfpphdaaGreatDoor
open Go.RowKit Pl Go.Shelf

def editR (s : ByteArray) (at_ by_ : Int) : ByteArray × Nat :=
  if wrong s ≠ 0 then (⟨#[]⟩, wrong s) else if at_ < 0 ∨ ((readS s).data.size : Int) ≤ at_ then (⟨#[]⟩, 2) else
    ({ readS s with data := editB (readS s).data at_.toNat by_ } : Sg).bytes |> fun t => (t, 0)
def splitR (s : ByteArray) (at_ : Int) : ByteArray × ByteArray × Nat :=
  if wrong s ≠ 0 then (⟨#[]⟩, ⟨#[]⟩, wrong s) else if (readS s).syn = true ∨ (readS s).rst = true ∨ at_ < 1 ∨ ((readS s).data.size : Int) ≤ at_ then (⟨#[]⟩, ⟨#[]⟩, 2) else
    ((splitA (readS s) at_.toNat).bytes, (splitZ (readS s) at_.toNat).bytes, 0)
def mergeR (a b : ByteArray) : ByteArray × Nat :=
  if wrong a ≠ 0 then (⟨#[]⟩, wrong a) else if wrong b ≠ 0 then (⟨#[]⟩, wrong b) else if mayMerge (readS a) (readS b) then ((mergeOf (readS a) (readS b)).bytes, 0) else (⟨#[]⟩, 2)

theorem edit_ok {x : Sg} (h : x.Ok) {k : Nat} (hk : k < x.data.size) (by_ : Int) : ({ x with data := editB x.data k by_ } : Sg).Ok :=
  ⟨h.h0, h.h1, h.h2, h.h3, h.h4, h.h5, h.h6, by show (editB x.data k by_).size ≤ 1024; rw [editB_size _ _ _ hk]; exact h.h7⟩
theorem splitA_ok {x : Sg} (h : x.Ok) (k : Nat) : (splitA x k).Ok :=
  ⟨h.h0, h.h1, h.h2, h.h3, h.h4, h.h5, h.h6, by show (x.data.extract 0 k).size ≤ 1024; rw [ByteArray.size_extract]; have := h.h7; omega⟩
theorem splitZ_ok {x : Sg} (h : x.Ok) (k : Nat) : (splitZ x k).Ok :=
  ⟨h.h0, h.h1, plusN_lt x.seq k, h.h3, h.h4, h.h5, h.h6, by show (x.data.extract k x.data.size).size ≤ 1024; rw [ByteArray.size_extract]; have := h.h7; omega⟩
theorem merge_ok {x y : Sg} (h : x.Ok) (hm : mayMerge x y) : (mergeOf x y).Ok :=
  ⟨h.h0, h.h1, h.h2, h.h3, h.h4, h.h5, h.h6, by show (x.data ++ y.data).size ≤ 1024; rw [ByteArray.size_append]; exact hm.2.2.2.2.2.2.2.2⟩

theorem enters_edit : Enters 34 := enters_of Tryz.func34 (by kernel_rfl) rfl
theorem enters_split : Enters 30 := enters_of Tryz.func30 (by kernel_rfl) rfl
theorem enters_merge : Enters 33 := enters_of Tryz.func33 (by kernel_rfl) rfl

set_option maxHeartbeats 1000000 in
theorem edit_any (s : ByteArray) (at_ by_ : Int) (w : World) (hz : s.size ≤ 9223372036854775807) :
    Calls Tryz.prog 14 #[.string s, .int .i64 at_, .int .i64 by_] w fun e w' => e = .returned (.tuple #[.string (editR s at_ by_).1, .int .i64 (editR s at_ by_).2]) ∧ Below w.heap.size w w' := by
  have hpp : At ((w.alloc (.cells #[.int .i64 at_] 3)).alloc (.cells #[.int .i64 by_] 3)) w.heap.size 3 [.int .i64 at_] := (At.of_new w _ _).alloc _
  have hqq : At ((w.alloc (.cells #[.int .i64 at_] 3)).alloc (.cells #[.int .i64 by_] 3)) (w.heap.size + 1) 3 [.int .i64 by_] := At.new1 (At.of_new _ _ _) (by simp)
  have hB : Below w.heap.size w ((w.alloc (.cells #[.int .i64 at_] 3)).alloc (.cells #[.int .i64 by_] 3)) := ((Below.refl _ w).alloc (Nat.le_refl _) _).alloc (by simp) _
  have hd : ∃ (t : ByteArray) (k : Nat), editR s at_ by_ = (t, k) ∧ ∀ W, W = (w.alloc (.cells #[.int .i64 at_] 3)).alloc (.cells #[.int .i64 by_] 3) →
      Calls Tryz.prog 24 #[.string s, .func (.func 34) #[] #[.pointer (some ⟨w.heap.size, 0, none⟩), .pointer (some ⟨w.heap.size + 1, 0, none⟩)]] W fun e w' => (k ≠ 0 ∧ t = ⟨#[]⟩ ∧ GiveNot k W e w') ∨ (k = 0 ∧ GiveS [t] W e w') := by
    unfold editR
    by_cases h : wrong s = 0
    · rw [if_neg (by simpa using h)]
      have hx := (read_ok s h).1
      by_cases hb : at_ < 0 ∨ ((readS s).data.size : Int) ≤ at_
      · rw [if_pos hb]
        exact ⟨_, _, rfl, fun W hW => (done_not s _ _ 2 W hz h enters_edit (by decide) (edit_bad W _ _ at_ by_ _ (hW ▸ hpp) hx hb)).mono fun e w' he => .inl ⟨by decide, rfl, he⟩⟩
      · rw [if_neg hb]
        obtain ⟨k, rfl⟩ : ∃ k : Nat, at_ = k := ⟨at_.toNat, by omega⟩
        have hk : k < (readS s).data.size := by omega
        exact ⟨_, _, rfl, fun W hW => (done_one s _ _ _ W hz h enters_edit (edit_ok hx hk by_) (edit_good W _ _ k by_ _ (hW ▸ hpp) (hW ▸ hqq) hx hk)).mono fun e w' he => .inr ⟨rfl, he⟩⟩
    · rw [if_pos h]
      exact ⟨_, _, rfl, fun W _ => (done_wrong s _ W hz h).mono fun e w' he => .inl ⟨h, rfl, he⟩⟩
  obtain ⟨t, k, hr, hd⟩ := hd
  rw [hr]
  have HD := Lib.hid (hd _ rfl)
  have HB := Lib.hid hB
  clear hd hr hpp hqq hB
  go_enter Tryz.func14, Tryz.ntmps14
  go_wp2_with fail
  refine HD.out.mono ?_
  rintro e w1 (⟨hk, rfl, rfl, hb1⟩ | ⟨rfl, v, rfl, hs, hb1⟩)
  · have HB1 := Lib.hid (HB.out.trans (hb1.mono HB.out.size))
    have HO := Lib.hid (only_not (.slice none 0 0) k w1 hk)
    clear hb1 hk
    go_wp2_with fail
    refine HO.out.mono ?_
    rintro e w2 ⟨rfl, rfl⟩
    go_wp2_with fail
    go_ret2
    exact ⟨rfl, HB1.out⟩
  · have HB1 := Lib.hid (HB.out.trans (hb1.mono HB.out.size))
    have HO := Lib.hid (only_one v t w1 hs)
    clear hb1 hs
    go_wp2_with fail
    refine HO.out.mono ?_
    rintro e w2 ⟨rfl, rfl⟩
    go_wp2_with fail
    go_ret2
    exact ⟨rfl, HB1.out⟩

set_option maxHeartbeats 1000000 in
theorem merge_call (a b : ByteArray) (w : World) (hz : a.size ≤ 9223372036854775807) (hz2 : b.size ≤ 9223372036854775807) :
    Calls Tryz.prog 13 #[.string a, .string b] w fun e w' => e = .returned (.tuple #[.string (mergeR a b).1, .int .i64 (mergeR a b).2]) ∧ Below w.heap.size w w' := by
  have hpp : At (w.alloc (.cells #[.string b] 9)) w.heap.size 9 [.string b] := At.of_new w _ _
  have hB : Below w.heap.size w (w.alloc (.cells #[.string b] 9)) := (Below.refl _ w).alloc (Nat.le_refl _) _
  have hd : ∃ (t : ByteArray) (k : Nat), mergeR a b = (t, k) ∧ ∀ W, W = w.alloc (.cells #[.string b] 9) →
      Calls Tryz.prog 24 #[.string a, .func (.func 33) #[] #[.pointer (some ⟨w.heap.size, 0, none⟩)]] W fun e w' => (k ≠ 0 ∧ t = ⟨#[]⟩ ∧ GiveNot k W e w') ∨ (k = 0 ∧ GiveS [t] W e w') := by
    unfold mergeR
    by_cases h : wrong a = 0
    · rw [if_neg (by simpa using h)]
      have hx := (read_ok a h).1
      by_cases hb : wrong b = 0
      · rw [if_neg (by simpa using hb)]
        by_cases hm : mayMerge (readS a) (readS b)
        · rw [if_pos hm]
          exact ⟨_, _, rfl, fun W hW => (done_one a _ _ _ W hz h enters_merge (merge_ok hx hm) (fun W2 hB2 => (merge_any W _ b _ (hW ▸ hpp) hz2 hb hx W2 hB2).mono fun e w' he => he.2 hm)).mono fun e w' he => .inr ⟨rfl, he⟩⟩
        · rw [if_neg hm]
          exact ⟨_, _, rfl, fun W hW => (done_not a _ _ 2 W hz h enters_merge (by decide) (fun W2 hB2 => (merge_any W _ b _ (hW ▸ hpp) hz2 hb hx W2 hB2).mono fun e w' he => he.1 hm)).mono fun e w' he => .inl ⟨by decide, rfl, he⟩⟩
      · rw [if_pos hb]
        exact ⟨_, _, rfl, fun W hW => (done_not a _ _ _ W hz h enters_merge hb (merge_wrong W _ b _ (hW ▸ hpp) hz2 hb)).mono fun e w' he => .inl ⟨hb, rfl, he⟩⟩
    · rw [if_pos h]
      exact ⟨_, _, rfl, fun W _ => (done_wrong a _ W hz h).mono fun e w' he => .inl ⟨h, rfl, he⟩⟩
  obtain ⟨t, k, hr, hd⟩ := hd
  rw [hr]
  have HD := Lib.hid (hd _ rfl)
  have HB := Lib.hid hB
  clear hd hr hpp hB
  go_enter Tryz.func13, Tryz.ntmps13
  go_wp2_with fail
  refine HD.out.mono ?_
  rintro e w1 (⟨hk, rfl, rfl, hb1⟩ | ⟨rfl, v, rfl, hs, hb1⟩)
  · have HB1 := Lib.hid (HB.out.trans (hb1.mono HB.out.size))
    have HO := Lib.hid (only_not (.slice none 0 0) k w1 hk)
    clear hb1 hk
    go_wp2_with fail
    refine HO.out.mono ?_
    rintro e w2 ⟨rfl, rfl⟩
    go_wp2_with fail
    go_ret2
    exact ⟨rfl, HB1.out⟩
  · have HB1 := Lib.hid (HB.out.trans (hb1.mono HB.out.size))
    have HO := Lib.hid (only_one v t w1 hs)
    clear hb1 hs
    go_wp2_with fail
    refine HO.out.mono ?_
    rintro e w2 ⟨rfl, rfl⟩
    go_wp2_with fail
    go_ret2
    exact ⟨rfl, HB1.out⟩

set_option maxHeartbeats 1000000 in
theorem split_any (s : ByteArray) (at_ : Int) (w : World) (hz : s.size ≤ 9223372036854775807) :
    Calls Tryz.prog 12 #[.string s, .int .i64 at_] w fun e w' => e = .returned (.tuple #[.string (splitR s at_).1, .string (splitR s at_).2.1, .int .i64 (splitR s at_).2.2]) ∧ Below w.heap.size w w' := by
  have hpp : At (w.alloc (.cells #[.int .i64 at_] 3)) w.heap.size 3 [.int .i64 at_] := At.of_new w _ _
  have hB : Below w.heap.size w (w.alloc (.cells #[.int .i64 at_] 3)) := (Below.refl _ w).alloc (Nat.le_refl _) _
  have hd : ∃ (t u : ByteArray) (k : Nat), splitR s at_ = (t, u, k) ∧ ∀ W, W = w.alloc (.cells #[.int .i64 at_] 3) →
      Calls Tryz.prog 24 #[.string s, .func (.func 30) #[] #[.pointer (some ⟨w.heap.size, 0, none⟩)]] W fun e w' => (k ≠ 0 ∧ t = ⟨#[]⟩ ∧ u = ⟨#[]⟩ ∧ GiveNot k W e w') ∨ (k = 0 ∧ GiveS [t, u] W e w') := by
    unfold splitR
    by_cases h : wrong s = 0
    · rw [if_neg (by simpa using h)]
      have hx := (read_ok s h).1
      by_cases hb : (readS s).syn = true ∨ (readS s).rst = true ∨ at_ < 1 ∨ ((readS s).data.size : Int) ≤ at_
      · rw [if_pos hb]
        exact ⟨_, _, _, rfl, fun W hW => (done_not s _ _ 2 W hz h enters_split (by decide) (split_bad W _ at_ _ (hW ▸ hpp) hx hb)).mono fun e w' he => .inl ⟨by decide, rfl, rfl, he⟩⟩
      · rw [if_neg hb]
        obtain ⟨k, rfl⟩ : ∃ k : Nat, at_ = k := ⟨at_.toNat, by omega⟩
        have hk : k < (readS s).data.size := by omega
        exact ⟨_, _, _, rfl, fun W hW => (done_two s _ _ _ _ W hz h enters_split (splitA_ok hx k) (splitZ_ok hx k) (split_good W _ k _ (hW ▸ hpp) hx (by simpa using fun e => hb (.inl e)) (by simpa using fun e => hb (.inr (.inl e))) (by omega) hk)).mono fun e w' he => .inr ⟨rfl, he⟩⟩
    · rw [if_pos h]
      exact ⟨_, _, _, rfl, fun W _ => (done_wrong s _ W hz h).mono fun e w' he => .inl ⟨h, rfl, rfl, he⟩⟩
  obtain ⟨t, u, k, hr, hd⟩ := hd
  rw [hr]
  have HD := Lib.hid (hd _ rfl)
  have HB := Lib.hid hB
  clear hd hr hpp hB
  go_enter Tryz.func12, Tryz.ntmps12
  go_wp2_with fail
  refine HD.out.mono ?_
  rintro e w1 (⟨hk, rfl, rfl, rfl, hb1⟩ | ⟨rfl, v, rfl, ⟨g, cap, rfl, hs⟩, hb1⟩)
  · have HB1 := Lib.hid (HB.out.trans (hb1.mono HB.out.size))
    have h1 : ((k : Int) == 0) = false := by simp; omega
    have h2 : ((k : Int) != 0) = true := by simp; omega
    clear hb1 hk
    go_wp2_with fail
    go_ret3
    exact ⟨rfl, HB1.out⟩
  · have HB1 := Lib.hid (HB.out.trans (hb1.mono HB.out.size))
    have c0 := hs 0 t rfl
    have c1 := hs 1 u rfl
    have i1 : (1 : Int) < 2 := by omega
    clear hb1 hs
    simp only [List.length_cons, List.length_nil, Nat.zero_add, Nat.reduceAdd]
    go_upto_region 4 with fail
    go_quiet (fail)
    go_wp2_with fail
    go_ret3
    exact ⟨rfl, below_dn HB1.out _⟩
end Go.Proofs.YtbbkinldfpphdaaGreatDoor
