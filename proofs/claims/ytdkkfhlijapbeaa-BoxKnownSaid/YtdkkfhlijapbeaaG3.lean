/- The segments of BoxKnown, and what box does with them. -/
import Derived.Test.YtdkkfhlijapbeaaG2
namespace Go.Proofs.Ytdkkfhlijapbeaa
open Go.RowKit Pl Go.Shelf

def zz (n : Nat) : ByteArray := ⟨(List.replicate n (0 : UInt8)).toArray⟩
theorem zz_size (n : Nat) : (zz n).size = n := by unfold zz; rw [size_ba]; simp
def kSyn : Sg := ⟨0, 0, 0, 0, true, false, false, false, 0, ⟨#[]⟩, ⟨#[97, 98]⟩⟩
theorem kSyn_ok : kSyn.Ok := ⟨by decide, by decide, by decide, by decide, by decide, by decide, by decide, by decide⟩
def kRst : Sg := ⟨0, 0, 0, 0, false, false, false, true, 0, ⟨#[]⟩, ⟨#[97, 98]⟩⟩
theorem kRst_ok : kRst.Ok := ⟨by decide, by decide, by decide, by decide, by decide, by decide, by decide, by decide⟩
def kFin : Sg := ⟨0, 0, 4294967295, 0, false, false, true, false, 0, ⟨#[]⟩, ⟨#[97, 98]⟩⟩
theorem kFin_ok : kFin.Ok := ⟨by decide, by decide, by decide, by decide, by decide, by decide, by decide, by decide⟩
def kPl : Sg := ⟨0, 0, 3, 0, false, false, false, false, 0, ⟨#[]⟩, ⟨#[120, 121]⟩⟩
theorem kPl_ok : kPl.Ok := ⟨by decide, by decide, by decide, by decide, by decide, by decide, by decide, by decide⟩
def kC : Sg := ⟨0, 0, 4294967295, 0, false, false, false, false, 0, ⟨#[]⟩, ⟨#[97]⟩⟩
theorem kC_ok : kC.Ok := ⟨by decide, by decide, by decide, by decide, by decide, by decide, by decide, by decide⟩
def kD : Sg := ⟨0, 0, 0, 0, false, false, true, false, 0, ⟨#[]⟩, ⟨#[98]⟩⟩
theorem kD_ok : kD.Ok := ⟨by decide, by decide, by decide, by decide, by decide, by decide, by decide, by decide⟩
def k1 : Sg := ⟨0, 0, 1, 0, false, false, false, false, 0, ⟨#[]⟩, ⟨#[]⟩⟩
theorem k1_ok : k1.Ok := ⟨by decide, by decide, by decide, by decide, by decide, by decide, by decide, by decide⟩
def k5s : Sg := ⟨0, 0, 5, 0, true, false, false, false, 0, ⟨#[]⟩, ⟨#[]⟩⟩
theorem k5s_ok : k5s.Ok := ⟨by decide, by decide, by decide, by decide, by decide, by decide, by decide, by decide⟩
def k5r : Sg := ⟨0, 0, 5, 0, false, false, false, true, 0, ⟨#[]⟩, ⟨#[]⟩⟩
theorem k5r_ok : k5r.Ok := ⟨by decide, by decide, by decide, by decide, by decide, by decide, by decide, by decide⟩
def k5a : Sg := ⟨1, 0, 5, 0, false, false, false, false, 0, ⟨#[]⟩, ⟨#[]⟩⟩
theorem k5a_ok : k5a.Ok := ⟨by decide, by decide, by decide, by decide, by decide, by decide, by decide, by decide⟩
def k5d : Sg := ⟨0, 1, 5, 0, false, false, false, false, 0, ⟨#[]⟩, ⟨#[]⟩⟩
theorem k5d_ok : k5d.Ok := ⟨by decide, by decide, by decide, by decide, by decide, by decide, by decide, by decide⟩
def k5f : Sg := ⟨0, 0, 5, 9, false, true, true, false, 4, ⟨#[]⟩, ⟨#[]⟩⟩
theorem k5f_ok : k5f.Ok := ⟨by decide, by decide, by decide, by decide, by decide, by decide, by decide, by decide⟩
def kM : Sg := ⟨0, 0, 3, 0, false, false, true, false, 0, ⟨#[]⟩, ⟨#[120, 121]⟩⟩
theorem kM_ok : kM.Ok := ⟨by decide, by decide, by decide, by decide, by decide, by decide, by decide, by decide⟩
def kMost : Sg := ⟨0, 0, 0, 0, false, false, false, false, 0, ⟨#[]⟩, zz 1024⟩
theorem kMost_ok : kMost.Ok := ⟨by decide, by decide, by decide, by decide, by decide, by decide, by decide, by show (zz 1024).size ≤ 1024; rw [zz_size]; decide⟩
def kA : Sg := ⟨0, 0, 1024, 0, false, false, false, false, 0, ⟨#[]⟩, ⟨#[97]⟩⟩
theorem kA_ok : kA.Ok := ⟨by decide, by decide, by decide, by decide, by decide, by decide, by decide, by decide⟩
def kZ : Sg := ⟨0, 0, 1024, 0, false, false, false, false, 0, ⟨#[]⟩, ⟨#[]⟩⟩
theorem kZ_ok : kZ.Ok := ⟨by decide, by decide, by decide, by decide, by decide, by decide, by decide, by decide⟩
def kW : Sg := ⟨0, 0, 0, 0, false, false, false, false, 0, ⟨#[30, 1, 0, 0]⟩, ⟨#[]⟩⟩
theorem kW_ok : kW.Ok := ⟨by decide, by decide, by decide, by decide, by decide, by decide, by decide, by decide⟩
theorem k_a : splitR kSyn.bytes 1 = (⟨#[]⟩, ⟨#[]⟩, 2) := by
  have h := read_bytes kSyn kSyn_ok
  unfold splitR
  rw [if_neg (by rw [h.2]; decide), h.1, if_pos (by decide)]
theorem k_b : splitR kRst.bytes 1 = (⟨#[]⟩, ⟨#[]⟩, 2) := by
  have h := read_bytes kRst kRst_ok
  unfold splitR
  rw [if_neg (by rw [h.2]; decide), h.1, if_pos (by decide)]
theorem k_e : splitR kFin.bytes 1 = (kC.bytes, kD.bytes, 0) := by
  have h := read_bytes kFin kFin_ok
  unfold splitR
  rw [if_neg (by rw [h.2]; decide), h.1, if_neg (by decide)]
  congr 2
theorem k_f : splitR kPl.bytes 0 = (⟨#[]⟩, ⟨#[]⟩, 2) := by
  have h := read_bytes kPl kPl_ok
  unfold splitR
  rw [if_neg (by rw [h.2]; decide), h.1, if_pos (by decide)]
theorem k_g : splitR kPl.bytes (-9223372036854775808) = (⟨#[]⟩, ⟨#[]⟩, 2) := by
  have h := read_bytes kPl kPl_ok
  unfold splitR
  rw [if_neg (by rw [h.2]; decide), h.1, if_pos (by decide)]
theorem k_h : mergeR kFin.bytes k1.bytes = (⟨#[]⟩, 2) := by
  have h := read_bytes kFin kFin_ok
  have h2 := read_bytes k1 k1_ok
  unfold mergeR
  rw [if_neg (by rw [h.2]; decide), if_neg (by rw [h2.2]; decide), h.1, h2.1, if_neg (by unfold mayMerge; decide)]
theorem k_i : mergeR kPl.bytes k5s.bytes = (⟨#[]⟩, 2) := by
  have h := read_bytes kPl kPl_ok
  have h2 := read_bytes k5s k5s_ok
  unfold mergeR
  rw [if_neg (by rw [h.2]; decide), if_neg (by rw [h2.2]; decide), h.1, h2.1, if_neg (by unfold mayMerge; decide)]
theorem k_j : mergeR kPl.bytes k5r.bytes = (⟨#[]⟩, 2) := by
  have h := read_bytes kPl kPl_ok
  have h2 := read_bytes k5r k5r_ok
  unfold mergeR
  rw [if_neg (by rw [h.2]; decide), if_neg (by rw [h2.2]; decide), h.1, h2.1, if_neg (by unfold mayMerge; decide)]
theorem k_k : mergeR kPl.bytes k5a.bytes = (⟨#[]⟩, 2) := by
  have h := read_bytes kPl kPl_ok
  have h2 := read_bytes k5a k5a_ok
  unfold mergeR
  rw [if_neg (by rw [h.2]; decide), if_neg (by rw [h2.2]; decide), h.1, h2.1, if_neg (by unfold mayMerge; decide)]
theorem k_l : mergeR kPl.bytes k5d.bytes = (⟨#[]⟩, 2) := by
  have h := read_bytes kPl kPl_ok
  have h2 := read_bytes k5d k5d_ok
  unfold mergeR
  rw [if_neg (by rw [h.2]; decide), if_neg (by rw [h2.2]; decide), h.1, h2.1, if_neg (by unfold mayMerge; decide)]
theorem k_n : mergeR kPl.bytes k5f.bytes = (kM.bytes, 0) := by
  have h := read_bytes kPl kPl_ok
  have h2 := read_bytes k5f k5f_ok
  unfold mergeR
  rw [if_neg (by rw [h.2]; decide), if_neg (by rw [h2.2]; decide), h.1, h2.1, if_pos (by unfold mayMerge; decide)]
  congr 2
theorem k_o : mergeR kMost.bytes kA.bytes = (⟨#[]⟩, 2) := by
  have h := read_bytes kMost kMost_ok
  have h2 := read_bytes kA kA_ok
  unfold mergeR
  rw [if_neg (by rw [h.2]; decide), if_neg (by rw [h2.2]; decide), h.1, h2.1, if_neg (by unfold mayMerge; decide +kernel)]
theorem k_p : mergeR kMost.bytes kZ.bytes = (kMost.bytes, 0) := by
  have h := read_bytes kMost kMost_ok
  have h2 := read_bytes kZ kZ_ok
  unfold mergeR
  rw [if_neg (by rw [h.2]; decide), if_neg (by rw [h2.2]; decide), h.1, h2.1, if_pos (by unfold mayMerge; decide +kernel)]
  have e0 : zz 1024 ++ (⟨#[]⟩ : ByteArray) = zz 1024 := by apply ba_ext; rw [ByteArray.data_append, Array.toList_append]; simp
  have e : mergeOf kMost kZ = kMost := by unfold mergeOf kMost kZ; simp [e0]
  rw [e]
theorem k_q : mergeR ⟨#[]⟩ ⟨#[]⟩ = (⟨#[]⟩, 4) := by decide +kernel
theorem k_r : mergeR kPl.bytes ⟨#[120]⟩ = (⟨#[]⟩, 4) := by
  have h := read_bytes kPl kPl_ok
  have e : wrong ⟨#[120]⟩ = 4 := by decide +kernel
  unfold mergeR
  rw [if_neg (by rw [h.2]; decide), if_pos (by rw [e]; decide), e]
theorem k_t : editR kPl.bytes 2 1 = (⟨#[]⟩, 2) := by
  have h := read_bytes kPl kPl_ok
  unfold editR
  rw [if_neg (by rw [h.2]; decide), h.1, if_pos (by decide)]
theorem k_u : editR kPl.bytes (-1) 1 = (⟨#[]⟩, 2) := by
  have h := read_bytes kPl kPl_ok
  unfold editR
  rw [if_neg (by rw [h.2]; decide), h.1, if_pos (by decide)]
theorem k_v : editR ⟨#[115, 104, 111, 114, 116]⟩ 0 1 = (⟨#[]⟩, 4) := by decide +kernel
theorem k_w : stripR kW.bytes = (⟨#[]⟩, 5) := by
  have h := read_bytes kW kW_ok
  have e : (walkR kW.area).2 = 5 := by decide +kernel
  unfold stripR
  rw [if_neg (by rw [h.2]; decide), h.1, if_pos (by rw [e]; decide), e]
theorem k_y : editR kPl.bytes 0 (-9223372036854775808) = (kPl.bytes, 0) := by
  have h := read_bytes kPl kPl_ok
  unfold editR
  rw [if_neg (by rw [h.2]; decide), h.1, if_neg (by decide)]
  rfl
set_option maxHeartbeats 1000000 in
theorem klay_ok (x : Sg) (h : x.Ok) (w : World) : Calls Try.prog 18 #[x.v] w fun e w' => e = .returned (.string x.bytes) ∧ Below w.heap.size w w' := by
  have HL : Hid (LayTo 13 x x.bytes 0) := lay_ok x h
  obtain ⟨s, hs⟩ : ∃ s, x.bytes = s := ⟨_, rfl⟩
  rw [hs] at HL ⊢
  clear h hs
  obtain ⟨src, dst, seq, ack, syn, ackOn, fin, rst, win, area, data⟩ := x
  unfold LayTo at HL
  unfold Sg.v at HL ⊢
  go_enter Try.func18, Try.ntmps18
  go_wp2_with fail
  refine (HL.out _).mono ?_
  rintro e w1 ⟨rfl, hb⟩
  have HB := Lib.hid (allocThen (Below.refl _ _) hb)
  clear hb HL
  go_wp2_with fail
  go_ret
  exact ⟨rfl, HB.out⟩
end Go.Proofs.Ytdkkfhlijapbeaa
