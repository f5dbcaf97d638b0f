/- Proved here: for every draft and every number, plaitlaw30.BoxStrips returns true and its arguments read as they did before, as the tied card. Condition: errors.errorType reads as the program's text lays it; the card ties it to that text by the given tie. -/
import Derived.Test.YtbbkinldfpphdaaGreatDoorK6
import Derived.Test.YtbbkinldfpphdaaGreatDoorTie
import Derived.Test.YtbbkinldfpphdaaGreatDoorCards
import Derived.SevenTiedAt
namespace Go.Proofs.YtbbkinldfpphdaaGreatDoor
open Go

theorem boxStripsCard_holds : Rows.BoxStripsCardSaid :=
  Claim7.holds_tied_plain_at .later [] [.handle] true (true, "c5ddc8dcedcc0614f4eedbf1123942e59d87cf2d730805a0db4e596877f8e607") true
    boxStrips_row_holds (fun _ h => by cases h) (by kernel_rfl) (fun _ h => by cases h) boxStrips_row_tie rfl ⟨rfl, rfl⟩ (by kernel_rfl) rfl
    (fun f fn hf hfn => by
      obtain rfl : f = 3 := Option.some.inj ((show Tryz.prog.funcNamed "plait/plaitlaw30.BoxStrips" = some 3 by kernel_rfl).symm.trans hf) |>.symm
      obtain rfl : fn = Tryz.f3 := (Option.some.inj (Tryz.func3.symm.trans hfn)).symm
      exact ⟨by kernel_rfl, fun j t ht => by
        rw [Tryz.params3] at ht
        have h3 : t = 26 ∨ t = 5 := by
          rcases j with _ | _ | j
          · exact .inl (by simpa using ht.symm)
          · exact .inr (by simpa using ht.symm)
          · simp at ht
        rcases h3 with rfl | rfl
        · exact (show Tryz.prog.wantsStandIn 26 = false by kernel_rfl)
        · exact (show Tryz.prog.wantsStandIn 5 = false by kernel_rfl)⟩)
    (by kernel_rfl)

end Go.Proofs.YtbbkinldfpphdaaGreatDoor
