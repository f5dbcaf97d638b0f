/- opt.read at an item that is none of ours, walked. -/
import Derived.Test.YtbbkinldfpphdaaGreatDoorSg
import Derived.Test.YtbbkinldfpphdaaGreatDoorRh
import Derived.Test.YtbbkinldfpphdaaGreatDoorA1
namespace Go.Proofs.YtbbkinldfpphdaaGreatDoor
open Go.RowKit Pl

/-- An option of which nothing is known: all zero. -/
abbrev optZ : List Value := [.int .i64 0, .int .i64 0, .int .i64 0, .bool false, .bool false, .int .u64 0, .int .u64 0, .int .i64 0, .int .u16 0, .int .i64 0, .bool false, .int .i64 0, .int .u32 0, .int .u32 0, .string ⟨#[]⟩, .bool false, .bool false, .bool false, .int .u64 0, .bool false, .bool false, .int .u64 0, .int .u32 0, .int .i64 0, .bool false, .int .u16 0, .bool false, .int .i64 0, .string ⟨#[]⟩, .bool false, .int .i64 0, .string ⟨#[]⟩, .string ⟨#[]⟩, .bool false, .int .u64 0, .int .u64 0, .int .i64 0, .int .i64 0]
theorem opt_info : (Tryz.prog.info? 97).map (·.size) = some 38 := by kernel_rfl
theorem opt_row : (Tryz.prog.underlying 97).map (·.isRow) = some true := by kernel_rfl
theorem optZ_one : optZ.toArray.all (·.oneCell') = true := oneCell_all rfl
theorem optZ_info : (Tryz.prog.info? 97).map (·.size) = some optZ.toArray.size := by rw [List.size_toArray]; exact opt_info
theorem opt_load {w : World} {g : Nat} {t : TypeId} {cs : List Value} (h : At w g t cs) (hl : cs.length = 38) : (Instr.loadAt 97 (.pointer (some ⟨g, 0, none⟩))).run Tryz.prog w = .ok (.agg cs.toArray) w :=
  row_load opt_info opt_row h hl
theorem opt_loadVar {w : World} {g : Nat} {t : TypeId} {cs : List Value} (h : At w g t cs) (hl : cs.length = 38) : (loadVar 97 ⟨g, 0, none⟩).run Tryz.prog w = .ok (.agg cs.toArray) w :=
  row_loadVar opt_info opt_row h hl

set_option maxRecDepth 20000 in
set_option maxHeartbeats 4000000 in
theorem read_kind (kind : Int) (body : ByteArray) (w : World) (hk : ¬ kind = 30) :
    Calls Tryz.prog 28 #[.agg #[.int .i64 kind, .string body]] w fun e w' => e = .returned (.tuple #[.agg optZ.toArray, .iface 32 (.int .i64 7)]) ∧ Below w.heap.size w w' := by
  have n1 : (kind == 30) = false := by rw [beq_eq_false_iff_ne]; exact hk
  have n2 : (kind != 30) = true := by rw [bne_iff_ne]; exact hk
  clear hk
  go_enter Tryz.func28, Tryz.ntmps28
  obtain ⟨W1, hW1⟩ : ∃ W1, ((w.alloc (.cells #[.int .i64 kind, .string body] 36)).alloc (.cells optZ.toArray 97)) = W1 := ⟨_, rfl⟩
  have hA : At W1 (w.heap.size + 1) 97 optZ := by rw [← hW1]; exact At.new1 (At.of_new _ _ _) (by simp)
  have hB : Below w.heap.size w W1 := by rw [← hW1]; exact ((Below.refl _ _).alloc (Nat.le_refl _) _).alloc (by simp) _
  have hI : At W1 w.heap.size 36 [.int .i64 kind, .string body] := by rw [← hW1]; exact (At.of_new _ _ _).alloc _
  have c0 := hI.cell 0
  simp only [List.getElem?_cons_zero] at c0
  have hth : W1.there (w.heap.size + 1) 0 optZ.toArray.size := hA.there (Nat.le_refl _)
  obtain ⟨hA2, hg⟩ := hA.setAll (xs := optZ) rfl
  have HB2 := Lib.hid (below_only hB hg hB.size (Nat.le_succ _))
  have HA2 := Lib.hid hA2
  have HT := Lib.hid hth
  clear hI hA hB hg hA2 hth
  go_upto_region 2 with fail
  clear hW1
  refine wp_region_lit ?_
  refine wpList_plain rfl fun K hK => ?_
  go_simp
  refine hK _ _ ?_
  clear hK K
  refine wpList_plain rfl fun K hK => ?_
  go_simp
  refine hK _ _ ?_
  clear hK K
  refine wpList_store_mid rfl _ _ _ rfl (w.heap.size + 1) 0 optZ.toArray rfl rfl HT.out optZ_info optZ_one ?_
  rw [show optZ.toArray.toList = optZ from rfl]
  obtain ⟨W2, hW2⟩ : ∃ W2, W1.setCells (w.heap.size + 1) 0 optZ = W2 := ⟨_, rfl⟩
  rw [hW2] at HA2 HB2 ⊢
  clear hW2 HT c0
  refine wpList_plain rfl fun K hK => ?_
  go_simp
  refine hK _ _ ?_
  clear hK K
  go_wp2_with fail
  have hL := opt_loadVar HA2.out rfl
  exact bodyPost_ret (v := .tuple #[.agg optZ.toArray, .iface 32 (.int .i64 7)]) (by
    simp only [results, Tryz.results28, asAddr]
    simp [hL]) rfl ⟨rfl, HB2.out⟩
end Go.Proofs.YtbbkinldfpphdaaGreatDoor
