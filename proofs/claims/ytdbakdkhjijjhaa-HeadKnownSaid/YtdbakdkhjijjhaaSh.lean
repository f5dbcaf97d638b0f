/- Where the calls of head's laws stand. -/
import Derived.Test.YtdbakdkhjijjhaaWk
namespace Go.Proofs.Ytdbakdkhjijjhaa
open Go.RowKit Pl

theorem allocThen {a w w1 : World} {o : Obj} (h : Below a.heap.size a w) (hb : Below (w.alloc o).heap.size (w.alloc o) w1) : Below a.heap.size a w1 :=
  (h.alloc h.size o).trans (hb.mono (h.alloc h.size o).size)
/-- Where the call stands: the segment, the shape, all else as it was. -/
def Sh (w W : World) (cs ds : List Value) : Prop := At W w.heap.size 25 cs ∧ At W (w.heap.size + 1) 27 ds ∧ Below w.heap.size w W
theorem Sh.drew {w W : World} {cs ds : List Value} (h : Sh w W cs ds) : Sh w W.drew cs ds := ⟨h.1, h.2.1, h.2.2.drew⟩
theorem Sh.kept {w W W' : World} {cs ds : List Value} (h : Sh w W cs ds) (hb : Below W.heap.size W W') : Sh w W' cs ds := ⟨h.1.kept hb, h.2.1.kept hb, h.2.2.trans (hb.mono h.2.2.size)⟩

end Go.Proofs.Ytdbakdkhjijjhaa
