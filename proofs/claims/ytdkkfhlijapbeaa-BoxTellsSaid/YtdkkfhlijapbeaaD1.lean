/- The document's Plus, walked. -/
import Derived.Test.YtdkkfhlijapbeaaB6
import Derived.Test.YtdkkfhlijapbeaaRq
namespace Go.Proofs.Ytdkkfhlijapbeaa
open Go.RowKit Pl


theorem rlay_ok (x : Sg) (h : x.Ok) : LayTo 10 x x.bytes 0 :=
  fun w => rlay_good 0 x.src x.dst x.seq x.ack x.syn x.ackOn x.fin x.rst x.win x.area x.data w h.h0 h.h1 h.h2 h.h3 h.h4 h.h5 h.h6 h.h7
theorem rparse_ok (s : ByteArray) (hz : s.size ≤ 9223372036854775807) (h : wrong s = 0) : ParseTo 49 s (readS s) 0 := fun w => rparse_good s w hz h
theorem rparse_no (s : ByteArray) (hz : s.size ≤ 9223372036854775807) (h : wrong s ≠ 0) : ParseTo 49 s noS (wrong s : Nat) := fun w => rparse_bad s w hz h

set_option maxHeartbeats 400000 in
theorem rplus_any (a n : Nat) (w : World) (ha : a < 4294967296) (hn : n ≤ 1024) :
    Calls Try.prog 51 #[.int .u32 a, .int .i64 n] w fun e w' => e = .returned (.int .u32 (plusN a n : Nat)) ∧ w = w' := by
  have h0 : (n : Int) % 4294967296 = n := by omega
  have h1 : ((a : Int) + n) % 4294967296 = (plusN a n : Nat) := by unfold plusN; omega
  go_enter Try.func51, Try.ntmps51
  go_wp2
  go_ret
  exact ⟨ret_int (by omega), rfl⟩

end Go.Proofs.Ytdkkfhlijapbeaa
