/- What edits do, in plain Lean. -/
import Derived.Test.YtdkkfhlijapbeaaB6
namespace Go.Proofs.Ytdkkfhlijapbeaa
open Go.RowKit Pl

theorem edit_bytes_R (x : Sg) (h : x.Ok) (k : Nat) (hk : k < x.data.size) (by_ : Int) : editR x.bytes k by_ = (({ x with data := editB x.data k by_ } : Sg).bytes, 0) := by
  have hr := read_bytes x h
  unfold editR
  rw [if_neg (by rw [hr.2]; decide), hr.1, if_neg (by omega)]
  rfl
theorem editL_get (l : List UInt8) (k : Nat) (by_ : Int) (h : k < l.length) : (editL l k by_)[k]? = some (UInt8.ofNat ((((l.getD k 0).toNat : Int) + by_) % 256).toNat) := by
  unfold editL
  have e : (l.take k).length = k := by rw [List.length_take]; omega
  rw [List.append_assoc, List.getElem?_append_right (by omega), e, Nat.sub_self]
  rfl
theorem editL_take (l : List UInt8) (k : Nat) (by_ : Int) (h : k < l.length) : (editL l k by_).take k = l.take k := by
  unfold editL
  rw [List.append_assoc, List.take_append_of_le_length (by simp; omega), List.take_take, Nat.min_self]
theorem editL_drop (l : List UInt8) (k : Nat) (by_ : Int) (h : k < l.length) : (editL l k by_).drop (k + 1) = l.drop (k + 1) := by
  unfold editL
  have e : (l.take k ++ [UInt8.ofNat ((((l.getD k 0).toNat : Int) + by_) % 256).toNat]).length = k + 1 := by simp; omega
  rw [List.drop_left' e]
theorem editL_getD (l : List UInt8) (k : Nat) (by_ : Int) (h : k < l.length) : (((editL l k by_).getD k 0).toNat : Int) = ((((l.getD k 0).toNat : Int) + by_) % 256) := by
  rw [List.getD_eq_getElem?_getD, editL_get l k by_ h, Option.getD_some, UInt8.toNat_ofNat', Nat.mod_eq_of_lt (by omega)]
  omega
theorem editL_join (l : List UInt8) (k : Nat) (h : k < l.length) (c : UInt8) (hc : l[k]? = some c) : l.take k ++ [c] ++ l.drop (k + 1) = l := by
  rw [List.append_assoc, List.singleton_append]
  have e : l[k]'h = c := by rw [List.getElem?_eq_getElem h] at hc; exact Option.some.inj hc
  rw [← e, List.getElem_cons_drop h, List.take_append_drop]
theorem editL_zero (l : List UInt8) (k : Nat) (by_ : Int) (h : k < l.length) (hb : by_ % 256 = 0) : editL l k by_ = l := by
  have hk : l[k]? = some (l[k]'h) := List.getElem?_eq_getElem h
  have hd : l.getD k 0 = l[k]'h := by rw [List.getD_eq_getElem?_getD, hk]; rfl
  unfold editL
  have e : UInt8.ofNat ((((l.getD k 0).toNat : Int) + by_) % 256).toNat = l[k]'h := by
    rw [hd]
    have hl := (l[k]'h).toNat_lt
    have : ((((l[k]'h).toNat : Int) + by_) % 256).toNat = (l[k]'h).toNat := by omega
    rw [this, UInt8.ofNat_toNat]
  rw [e]
  exact editL_join l k h _ hk
theorem editL_back (l : List UInt8) (k : Nat) (by_ : Int) (h : k < l.length) : editL (editL l k by_) k (-by_) = l := by
  have hl := editL_length l k by_ h
  have h2 : k < (editL l k by_).length := by omega
  have hk : l[k]? = some (l[k]'h) := List.getElem?_eq_getElem h
  have hd : l.getD k 0 = l[k]'h := by rw [List.getD_eq_getElem?_getD, hk]; rfl
  rw [editL, editL_take l k by_ h, editL_drop l k by_ h, editL_getD l k by_ h, hd]
  have e : UInt8.ofNat (((((l[k]'h).toNat : Int) + by_) % 256 + -by_) % 256).toNat = l[k]'h := by
    have hl := (l[k]'h).toNat_lt
    have : (((((l[k]'h).toNat : Int) + by_) % 256 + -by_) % 256).toNat = (l[k]'h).toNat := by omega
    rw [this, UInt8.ofNat_toNat]
  rw [e]
  exact editL_join l k h _ hk
theorem editB_list (d : ByteArray) (k : Nat) (by_ : Int) : (editB d k by_).data.toList = editL d.data.toList k by_ := rfl
theorem editB_zero (d : ByteArray) (k : Nat) (by_ : Int) (h : k < d.size) (hb : by_ % 256 = 0) : editB d k by_ = d := by
  apply ba_ext; rw [editB_list, editL_zero _ _ _ (by rw [bytes_len]; exact h) hb]
theorem editB_back (d : ByteArray) (k : Nat) (by_ : Int) (h : k < d.size) : editB (editB d k by_) k (-by_) = d := by
  apply ba_ext; rw [editB_list, editB_list, editL_back _ _ _ (by rw [bytes_len]; exact h)]
theorem editB_front (d : ByteArray) (k : Nat) (by_ : Int) (h : k < d.size) : (editB d k by_).extract 0 k = d.extract 0 k := by
  apply ba_ext; rw [cut_data, cut_data, editB_list, cutL, cutL, editL_take _ _ _ (by rw [bytes_len]; exact h)]
theorem editB_rest (d : ByteArray) (k : Nat) (by_ : Int) (h : k < d.size) : (editB d k by_).extract (k + 1) d.size = d.extract (k + 1) d.size := by
  apply ba_ext
  have hl : (editL d.data.toList k by_).length ≤ d.size := by rw [editL_length _ _ _ (by rw [bytes_len]; exact h), bytes_len]; exact Nat.le_refl _
  rw [cut_data, cut_data, editB_list, cutL, cutL, List.take_of_length_le hl, List.take_of_length_le (by rw [bytes_len]; exact Nat.le_refl _), editL_drop _ _ _ (by rw [bytes_len]; exact h)]
theorem editB_byte (d : ByteArray) (k : Nat) (by_ : Int) (h : k < d.size) : (bn (editB d k by_).data.toList k : Int) = ((bn d.data.toList k : Int) + by_) % 256 := by
  rw [editB_list]; exact editL_getD _ _ _ (by rw [bytes_len]; exact h)
theorem bytes_inj {x y : Sg} (hx : x.Ok) (hy : y.Ok) (h : x.bytes = y.bytes) : x = y := by
  rw [← (read_bytes x hx).1, ← (read_bytes y hy).1, h]
/-- Is the edited one the same? -/
theorem edit_same (x : Sg) (h : x.Ok) (k : Nat) (hk : k < x.data.size) (by_ : Int) : (({ x with data := editB x.data k by_ } : Sg).bytes = x.bytes) ↔ by_ % 256 = 0 := by
  constructor
  · intro e
    have e2 := bytes_inj (edit_ok h hk by_) h e
    have e3 : editB x.data k by_ = x.data := congrArg Sg.data e2
    have hb := editB_byte x.data k by_ hk
    rw [e3] at hb
    have : bn x.data.data.toList k < 256 := by unfold bn; exact UInt8.toNat_lt _
    omega
  · intro hb
    rw [editB_zero _ _ _ hk hb]
end Go.Proofs.Ytdkkfhlijapbeaa
