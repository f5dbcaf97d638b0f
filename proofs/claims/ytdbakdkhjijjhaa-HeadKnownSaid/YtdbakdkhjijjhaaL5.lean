/- HeadKnown walked. -/
import Derived.Test.YtdbakdkhjijjhaaPz
import Derived.Test.YtdbakdkhjijjhaaSh
import Derived.Deep.Cut
import Derived.Deep.DeepCutAuto
import Derived.RegionTactic
import Derived.Test.YtdbakdkhjijjhaaRh
namespace Go.Proofs.Ytdbakdkhjijjhaa
open Go.RowKit Pl

def SK (w : World) (g : Nat) (x : Value) (w' : World) : Prop := w'.cell? ⟨g, 10, none⟩ = some x ∧ Below w.heap.size w w'
theorem SK.drew {w W : World} {g : Nat} {x : Value} (h : SK w g x W) : SK w g x W.drew := ⟨h.1, h.2.drew⟩
theorem SK.kept {w W W' : World} {g : Nat} {x : Value} (h : SK w g x W) (hb : Below W.heap.size W W') : SK w g x W' :=
  ⟨(hb.cell (p := ⟨g, 10, none⟩) (block_lt_of_cell h.1)).trans h.1, h.2.trans (hb.mono h.2.size)⟩
theorem SK.alloc {w W : World} {g : Nat} {x : Value} (h : SK w g x W) (o : Obj) : SK w g x (W.alloc o) := h.kept ((Below.refl _ _).alloc (Nat.le_refl _) _)
def zl (n : Nat) : List UInt8 := List.replicate n 0
def zs (n : Nat) : ByteArray := ⟨(zl n).toArray⟩
theorem zs_size (n : Nat) : (zs n).size = n := by unfold zs zl; rw [size_ba]; simp
theorem refused_int (s : ByteArray) (k : Int) (w : World) (hz : s.size ≤ 9223372036854775807) (hk : k ≠ 0) (h : ((rightL s.data.toList : Nat) : Int) = k) :
    Calls Try.prog 17 #[.string s, .int .i64 k] w fun e w' => e = .returned (.bool true) ∧ Below w.heap.size w w' := by
  subst h
  exact refused_any s _ w hz (by omega) rfl
/-- The flags' bytes that came so far. -/
def gotL (k : Nat) : List UInt8 := (List.range k).map fun i => UInt8.ofNat (fl (i / 2 % 2 == 1) (i / 8 == 1) (i % 2 == 1) (i / 4 % 2 == 1) 4)
def gotS (k : Nat) : ByteArray := ⟨(gotL k).toArray⟩
theorem gotS_succ (k : Nat) (a b c d : Bool) (ha : (k / 2 % 2 == 1) = a) (hb : (k / 8 == 1) = b) (hc : (k % 2 == 1) = c) (hd : (k / 4 % 2 == 1) = d) :
    gotS k ++ (segS 1 2 3 4 a b c d 5 ⟨#[]⟩ ⟨#[]⟩).extract 13 14 = gotS (k + 1) := by
  apply ba_ext
  rw [ByteArray.data_append, Array.toList_append, cut_data, segS_data]
  unfold gotS gotL
  rw [List.range_succ, List.map_append, List.map_cons, List.map_nil, ha, hb, hc, hd]
  rfl
theorem gotS_size (k : Nat) : (gotS k).size = k := by unfold gotS gotL; rw [size_ba]; simp
theorem gotS_all : (gotS 16).toList = [0, 1, 2, 3, 4, 5, 6, 7, 16, 17, 18, 19, 20, 21, 22, 23] := by
  rw [ByteArray.toList_eq]; decide +kernel
/-- Where the loop stands: the segment with some flags. -/
def Kn (w W : World) (g : Nat) : Prop := ∃ a b c d : Bool, At W g 25 [.int .i64 0, .int .u16 1, .int .u16 2, .int .u32 3, .int .u32 4, .bool a, .bool b, .bool c, .bool d, .int .u16 5, .string ⟨#[]⟩, .string ⟨#[]⟩] ∧ Below w.heap.size w W ∧ w.heap.size ≤ g

set_option maxRecDepth 20000 in
set_option maxHeartbeats 4000000 in
theorem headKnown_any (w : World) :
    Calls Try.prog 7 #[] w fun e w' => e = .returned (.bool true) ∧ Below w.heap.size w w' := by
  have hs21 : chapS.size = 21 := by decide
  have G16 := Lib.hid gotS_all
  go_enter Try.func7, Try.ntmps7
  go_wp2_with (go_at_call 16; refine (chapter_any _).mono ?_; rintro e w1 ⟨rfl, hb1⟩; unfold chapC)
  have HK : Hid (Kn w (w1.alloc (.cells #[.int .i64 0, .int .u16 1, .int .u16 2, .int .u32 3, .int .u32 4, .bool false, .bool false, .bool false, .bool false, .int .u16 5, .string ⟨#[]⟩, .string ⟨#[]⟩] 25)) w1.heap.size) :=
    ⟨_, _, _, _, At.of_new _ _ _, hb1.alloc hb1.size _, hb1.size⟩
  clear hb1
  go_loopw [3, 4] (fun got i wr => ∃ k : Nat, k ≤ 16 ∧ i = .int .i64 k ∧ got = .string (gotS k) ∧ Hid (Kn w wr w1.heap.size)) (fun _ i _ => 16 - (intOf i).toNat)
  case atStart => exact ⟨0, by omega, rfl, rfl, HK⟩
  case round =>
    clear HK
    obtain ⟨k, hk, rfl, rfl, HK⟩ := hrel
    by_cases hlt : k < 16
    · obtain ⟨a, b, c, d, hA, hB, hg⟩ := HK.out
      obtain ⟨f, d0, d1, d2, d3, d4, d5, d6, d7, d8, d9, d10, d11⟩ := hA.cells12
      obtain ⟨a', ha'⟩ : ∃ b, ((k : Int) / 2 % 2 == 1) = b := ⟨_, rfl⟩
      obtain ⟨b', hb'⟩ : ∃ b, ((k : Int) / 8 == 1) = b := ⟨_, rfl⟩
      obtain ⟨c', hc'⟩ : ∃ b, ((k : Int) % 2 == 1) = b := ⟨_, rfl⟩
      obtain ⟨d', hd'⟩ : ∃ b, ((k : Int) / 4 % 2 == 1) = b := ⟨_, rfl⟩
      have HG0 := gotS_succ k a' b' c' d' (by rw [← ha', Bool.eq_iff_iff]; simp; omega) (by rw [← hb', Bool.eq_iff_iff]; simp; omega) (by rw [← hc', Bool.eq_iff_iff]; simp; omega) (by rw [← hd', Bool.eq_iff_iff]; simp; omega)
      have HL : Hid (∀ w, Calls Try.prog 9 #[.agg #[.int .i64 0, .int .u16 1, .int .u16 2, .int .u32 3, .int .u32 4, .bool a', .bool b', .bool c', .bool d', .int .u16 5, .string ⟨#[]⟩, .string ⟨#[]⟩]] w fun e w' => e = .returned (.tuple #[.string (segS 1 2 3 4 a' b' c' d' 5 ⟨#[]⟩ ⟨#[]⟩), .int .i64 0]) ∧ Below w.heap.size w w') :=
        fun w => lay_good 0 1 2 3 4 a' b' c' d' 5 ⟨#[]⟩ ⟨#[]⟩ w (by decide) (by decide) (by decide) (by decide) (by decide) (by decide) (by decide) (by decide)
      have hT : (segS 1 2 3 4 a' b' c' d' 5 ⟨#[]⟩ ⟨#[]⟩).size = 20 := segS_size _ _ _ _ _ _ _ _ _ _ _
      obtain ⟨T, eT⟩ : ∃ T, segS 1 2 3 4 a' b' c' d' 5 ⟨#[]⟩ ⟨#[]⟩ = T := ⟨_, rfl⟩
      rw [eT] at HG0 HL hT
      clear eT
      have HG := Lib.hid HG0
      have hgs : (gotS k).size ≤ 16 := by rw [gotS_size]; omega
      have HA := Lib.hid hA
      have HB := Lib.hid hB
      have Ha := Lib.hid ha'
      have Hb := Lib.hid hb'
      have Hc := Lib.hid hc'
      have Hd := Lib.hid hd'
      clear hA hB HK ha' hb' hc' hd' HG0
      go_wp2_with fail
      rw [Ha.out, Hb.out, Hc.out, Hd.out]
      refine (HL.out _).mono ?_
      rintro e w2 ⟨rfl, hb2⟩
      have hA2 := Lib.hid (((((HA.out.set_ 7 (.bool c')).set_ 5 (.bool a')).set_ 8 (.bool d')).set_ 6 (.bool b')).kept hb2)
      have hB1 := (((HB.out.setCell (p := ⟨w1.heap.size, 7, none⟩) hg (.bool c')).setCell (p := ⟨w1.heap.size, 5, none⟩) hg (.bool a')).setCell (p := ⟨w1.heap.size, 8, none⟩) hg (.bool d')).setCell (p := ⟨w1.heap.size, 6, none⟩) hg (.bool b')
      have hB2 := Lib.hid (hB1.trans (hb2.mono hB1.size))
      clear f d0 d1 d2 d3 d4 d5 d6 d7 d8 d9 d10 d11 hB1 hb2 HA HB
      go_wp2_with fail
      exact ⟨⟨k + 1, by omega, int_eq (by omega), by rw [HG.out], ⟨_, _, _, _, hA2.out, hB2.out, hg⟩⟩, by simp [intOf]; omega⟩
    · obtain rfl : k = 16 := by omega
      have g16 := G16.out
      obtain ⟨_, _, _, _, _, hB, hg⟩ := HK.out
      have HB := Lib.hid hB
      clear hB HK
      go_upto_region 14 with fail
      have M0 : ∀ w, (Instr.makeSlice 45 (.int .i64 40) (.int .i64 40)).run Try.prog w = .ok (.slice (some ⟨w.heap.size, 0, none⟩) 40 40) (w.alloc (.cells (cellsOf (zl 40)).toArray 5)) := fun w => make_u8 40 (by omega) w
      have M1 : ∀ w, (Instr.makeSlice 45 (.int .i64 1024) (.int .i64 1024)).run Try.prog w = .ok (.slice (some ⟨w.heap.size, 0, none⟩) 1024 1024) (w.alloc (.cells (cellsOf (zl 1024)).toArray 5)) := fun w => make_u8 1024 (by omega) w
      go_cut [7] from 61 to 65 (fun p w' => ∃ g, p = .pointer (some ⟨g, 0, none⟩) ∧ At w' g 25 [.int .i64 0, .int .u16 65535, .int .u16 65535, .int .u32 4294967295, .int .u32 4294967295, .bool false, .bool false, .bool false, .bool false, .int .u16 65535, .string (zs 40), .string (zs 1024)] ∧ Hid (Below w.heap.size w w') ∧ w.heap.size ≤ g)
      case first =>
        have pC : ∀ W g, At W g 5 (cellsOf (zl 40)) → (convert 45 9 (.slice (some ⟨g, 0, none⟩) 40 40)).run Try.prog W = .ok (.string (zs 40)) W := fun W g h => by
          rw [conv_str 45 9 5 Try.underlying45 Try.underlying5 Try.underlying9 W g _ (zl 40) 0 40 40 h (by simp [zl]), List.drop_zero, List.take_of_length_le (by simp [zl])]; rfl
        have p1 : At (wr.alloc (.cells (cellsOf (zl 40)).toArray 5)) wr.heap.size 5 (cellsOf (zl 40)) := At.of_new _ _ _
        have pd1 : At (wr.alloc (.cells (cellsOf (zl 40)).toArray 5)).drew wr.heap.size 5 (cellsOf (zl 40)) := At.of_new _ _ _
        have p2 : ∀ o : Obj, At ((wr.alloc (.cells (cellsOf (zl 40)).toArray 5)).alloc o) wr.heap.size 5 (cellsOf (zl 40)) := fun _ => (At.of_new _ _ _).alloc _
        have pd2 : ∀ o : Obj, At ((wr.alloc (.cells (cellsOf (zl 40)).toArray 5)).alloc o).drew wr.heap.size 5 (cellsOf (zl 40)) := fun _ => (At.of_new _ _ _).alloc _
        have p3 : ∀ o o' : Obj, At (((wr.alloc (.cells (cellsOf (zl 40)).toArray 5)).alloc o).alloc o') wr.heap.size 5 (cellsOf (zl 40)) := fun _ _ => ((At.of_new _ _ _).alloc _).alloc _
        have pd3 : ∀ o o' : Obj, At (((wr.alloc (.cells (cellsOf (zl 40)).toArray 5)).alloc o).alloc o').drew wr.heap.size 5 (cellsOf (zl 40)) := fun _ _ => ((At.of_new _ _ _).alloc _).alloc _
        have p4 : ∀ o : Obj, At ((wr.alloc o).alloc (.cells (cellsOf (zl 40)).toArray 5)) (wr.heap.size + 1) 5 (cellsOf (zl 40)) := fun _ => At.new1 (At.of_new _ _ _) (by simp)
        have pd4 : ∀ o : Obj, At ((wr.alloc o).alloc (.cells (cellsOf (zl 40)).toArray 5)).drew (wr.heap.size + 1) 5 (cellsOf (zl 40)) := fun _ => At.new1 (At.of_new _ _ _) (by simp)
        have p5 : ∀ o o' : Obj, At (((wr.alloc o).alloc (.cells (cellsOf (zl 40)).toArray 5)).alloc o') (wr.heap.size + 1) 5 (cellsOf (zl 40)) := fun _ _ => (At.new1 (At.of_new _ _ _) (by simp)).alloc _
        have pd5 : ∀ o o' : Obj, At (((wr.alloc o).alloc (.cells (cellsOf (zl 40)).toArray 5)).alloc o').drew (wr.heap.size + 1) 5 (cellsOf (zl 40)) := fun _ _ => (At.new1 (At.of_new _ _ _) (by simp)).alloc _
        have p6 : ∀ o o' : Obj, At (((wr.alloc o).alloc o').alloc (.cells (cellsOf (zl 40)).toArray 5)) (wr.heap.size + 1 + 1) 5 (cellsOf (zl 40)) := fun _ _ => At.new1 (At.of_new _ _ _) (by simp)
        have pd6 : ∀ o o' : Obj, At (((wr.alloc o).alloc o').alloc (.cells (cellsOf (zl 40)).toArray 5)).drew (wr.heap.size + 1 + 1) 5 (cellsOf (zl 40)) := fun _ _ => At.new1 (At.of_new _ _ _) (by simp)
        have p7 : ∀ o o' : Obj, At (((wr.alloc o).alloc o').alloc (.cells (cellsOf (zl 40)).toArray 5)) (wr.heap.size + 2) 5 (cellsOf (zl 40)) := fun _ _ => At.new1 (At.of_new _ _ _) (by simp)
        have pd7 : ∀ o o' : Obj, At (((wr.alloc o).alloc o').alloc (.cells (cellsOf (zl 40)).toArray 5)).drew (wr.heap.size + 2) 5 (cellsOf (zl 40)) := fun _ _ => At.new1 (At.of_new _ _ _) (by simp)
        have qC : ∀ W g, At W g 5 (cellsOf (zl 1024)) → (convert 45 9 (.slice (some ⟨g, 0, none⟩) 1024 1024)).run Try.prog W = .ok (.string (zs 1024)) W := fun W g h => by
          rw [conv_str 45 9 5 Try.underlying45 Try.underlying5 Try.underlying9 W g _ (zl 1024) 0 1024 1024 h (by simp [zl]), List.drop_zero, List.take_of_length_le (by simp [zl])]; rfl
        have q1 : At (wr.alloc (.cells (cellsOf (zl 1024)).toArray 5)) wr.heap.size 5 (cellsOf (zl 1024)) := At.of_new _ _ _
        have qd1 : At (wr.alloc (.cells (cellsOf (zl 1024)).toArray 5)).drew wr.heap.size 5 (cellsOf (zl 1024)) := At.of_new _ _ _
        have q2 : ∀ o : Obj, At ((wr.alloc (.cells (cellsOf (zl 1024)).toArray 5)).alloc o) wr.heap.size 5 (cellsOf (zl 1024)) := fun _ => (At.of_new _ _ _).alloc _
        have qd2 : ∀ o : Obj, At ((wr.alloc (.cells (cellsOf (zl 1024)).toArray 5)).alloc o).drew wr.heap.size 5 (cellsOf (zl 1024)) := fun _ => (At.of_new _ _ _).alloc _
        have q3 : ∀ o o' : Obj, At (((wr.alloc (.cells (cellsOf (zl 1024)).toArray 5)).alloc o).alloc o') wr.heap.size 5 (cellsOf (zl 1024)) := fun _ _ => ((At.of_new _ _ _).alloc _).alloc _
        have qd3 : ∀ o o' : Obj, At (((wr.alloc (.cells (cellsOf (zl 1024)).toArray 5)).alloc o).alloc o').drew wr.heap.size 5 (cellsOf (zl 1024)) := fun _ _ => ((At.of_new _ _ _).alloc _).alloc _
        have q4 : ∀ o : Obj, At ((wr.alloc o).alloc (.cells (cellsOf (zl 1024)).toArray 5)) (wr.heap.size + 1) 5 (cellsOf (zl 1024)) := fun _ => At.new1 (At.of_new _ _ _) (by simp)
        have qd4 : ∀ o : Obj, At ((wr.alloc o).alloc (.cells (cellsOf (zl 1024)).toArray 5)).drew (wr.heap.size + 1) 5 (cellsOf (zl 1024)) := fun _ => At.new1 (At.of_new _ _ _) (by simp)
        have q5 : ∀ o o' : Obj, At (((wr.alloc o).alloc (.cells (cellsOf (zl 1024)).toArray 5)).alloc o') (wr.heap.size + 1) 5 (cellsOf (zl 1024)) := fun _ _ => (At.new1 (At.of_new _ _ _) (by simp)).alloc _
        have qd5 : ∀ o o' : Obj, At (((wr.alloc o).alloc (.cells (cellsOf (zl 1024)).toArray 5)).alloc o').drew (wr.heap.size + 1) 5 (cellsOf (zl 1024)) := fun _ _ => (At.new1 (At.of_new _ _ _) (by simp)).alloc _
        have q6 : ∀ o o' : Obj, At (((wr.alloc o).alloc o').alloc (.cells (cellsOf (zl 1024)).toArray 5)) (wr.heap.size + 1 + 1) 5 (cellsOf (zl 1024)) := fun _ _ => At.new1 (At.of_new _ _ _) (by simp)
        have qd6 : ∀ o o' : Obj, At (((wr.alloc o).alloc o').alloc (.cells (cellsOf (zl 1024)).toArray 5)).drew (wr.heap.size + 1 + 1) 5 (cellsOf (zl 1024)) := fun _ _ => At.new1 (At.of_new _ _ _) (by simp)
        have q7 : ∀ o o' : Obj, At (((wr.alloc o).alloc o').alloc (.cells (cellsOf (zl 1024)).toArray 5)) (wr.heap.size + 2) 5 (cellsOf (zl 1024)) := fun _ _ => At.new1 (At.of_new _ _ _) (by simp)
        have qd7 : ∀ o o' : Obj, At (((wr.alloc o).alloc o').alloc (.cells (cellsOf (zl 1024)).toArray 5)).drew (wr.heap.size + 2) 5 (cellsOf (zl 1024)) := fun _ _ => At.new1 (At.of_new _ _ _) (by simp)
        go_region
        all_goals go_wp2
        all_goals go_meet
        all_goals
          refine ⟨_, rfl, ?_, ?_, ?_⟩
          · refine At.drew ?_
            first
              | exact ((At.of_new _ _ _).alloc _).alloc _
              | exact (At.new1 (At.of_new _ _ _) (by simp)).alloc _
              | exact At.new1 (At.of_new _ _ _) (by simp)
          · exact (((HB.out.alloc HB.out.size _).alloc (by have := HB.out.size; simp; omega) _).alloc (by have := HB.out.size; simp; omega) _).drew
          · have := HB.out.size; omega
      case rest =>
        obtain ⟨g, rfl, hA, hB, hgg⟩ := hcut
        clear HB M0 M1 hg
        have HL : Hid (∀ w, Calls Try.prog 9 #[.agg #[.int .i64 0, .int .u16 65535, .int .u16 65535, .int .u32 4294967295, .int .u32 4294967295, .bool false, .bool false, .bool false, .bool false, .int .u16 65535, .string (zs 40), .string (zs 1024)]] w fun e w' => e = .returned (.tuple #[.string (segS 65535 65535 4294967295 4294967295 false false false false 65535 (zs 40) (zs 1024)), .int .i64 0]) ∧ Below w.heap.size w w') :=
          fun w => by
            have := lay_good 0 65535 65535 4294967295 4294967295 false false false false 65535 (zs 40) (zs 1024) w (by omega) (by omega) (by omega) (by omega) (by omega) (by rw [zs_size]; omega) (by rw [zs_size]) (by rw [zs_size]; omega)
            unfold segC at this
            simp only [Int.cast_ofNat_Int] at this
            exact this
        have HP : Hid (∀ w, Calls Try.prog 14 #[.string (segS 65535 65535 4294967295 4294967295 false false false false 65535 (zs 40) (zs 1024))] w fun e w' => e = .returned (.tuple #[.agg #[.int .i64 0, .int .u16 65535, .int .u16 65535, .int .u32 4294967295, .int .u32 4294967295, .bool false, .bool false, .bool false, .bool false, .int .u16 65535, .string (zs 40), .string (zs 1024)], .int .i64 0]) ∧ Below w.heap.size w w') := fun w => by
          have := parse_good (segS 65535 65535 4294967295 4294967295 false false false false 65535 (zs 40) (zs 1024)) w (by rw [segS_size, zs_size, zs_size]; omega) (segS_right _ _ _ _ _ _ _ _ _ _ _ (by rw [zs_size]; omega) (by rw [zs_size]) (by rw [zs_size]; omega))
          rw [segS_parse _ _ _ _ _ _ _ _ _ _ _ (by omega) (by omega) (by omega) (by omega) (by omega) (by rw [zs_size]; omega) (by rw [zs_size])] at this
          unfold segC at this
          simp only [Int.cast_ofNat_Int] at this
          exact this
        have hT : (segS 65535 65535 4294967295 4294967295 false false false false 65535 (zs 40) (zs 1024)).size = 1084 := by rw [segS_size, zs_size, zs_size]
        obtain ⟨T, eT⟩ : ∃ T, segS 65535 65535 4294967295 4294967295 false false false false 65535 (zs 40) (zs 1024) = T := ⟨_, rfl⟩
        rw [eT] at HL HP hT
        clear eT
        have s40 := zs_size 40
        have s1024 := zs_size 1024
        have HX : Hid (∀ w, Calls Try.prog 9 #[.agg #[.int .i64 0, .int .u16 65535, .int .u16 65535, .int .u32 4294967295, .int .u32 4294967295, .bool false, .bool false, .bool false, .bool false, .int .u16 65535, .string (zs 40), .string (zs 1024 ++ ⟨#[120]⟩)]] w fun e w' => e = .returned (.tuple #[.string ⟨#[]⟩, .int .i64 6]) ∧ Below w.heap.size w w') :=
          fun w => by
            have h1 : (⟨#[120]⟩ : ByteArray).size = 1 := rfl
            have := lay_bad 0 65535 65535 4294967295 4294967295 false false false false 65535 (zs 40) (zs 1024 ++ ⟨#[120]⟩) w (by rw [zs_size]; omega) (by rw [ByteArray.size_append, zs_size, h1]; omega) (.inr (.inr (by rw [ByteArray.size_append, zs_size, h1]; omega)))
            unfold segC at this
            simp only [Int.cast_ofNat_Int] at this
            exact this
        obtain ⟨f, d0, d1, d2, d3, d4, d5, d6, d7, d8, d9, d10, d11⟩ := hA.cells12
        have HA := Lib.hid hA
        clear hA
        go_wp2_with fail
        refine (HL.out _).mono ?_
        rintro e w2 ⟨rfl, hb2⟩
        have hA2 := HA.out.kept hb2
        have B2 := Lib.hid (hB.out.trans (hb2.mono hB.out.size))
        clear hb2 HA hB f d0 d1 d2 d3 d4 d5 d6 d7 d8 d9 d10 d11
        go_wp2_with fail
        refine (HP.out _).mono ?_
        rintro e w3 ⟨rfl, hb3⟩
        have hA3 := hA2.kept hb3
        have B3 := Lib.hid (B2.out.trans (hb3.mono B2.out.size))
        have hlt := hA3.lt
        obtain ⟨f, d0, d1, d2, d3, d4, d5, d6, d7, d8, d9, d10, d11⟩ := hA3.cells12
        clear hb3 B2 hA2 hA3
        go_upto_region 18 with fail
        go_cut [13] from 14 to 84 (fun s13 w' => s13 = .int .i64 6 ∧ Hid (SK w w3.heap.size (.string (zs 40)) w'))
        case first =>
          go_wp2_with fail
          refine (HX.out _).mono ?_
          rintro e w4 ⟨rfl, hb4⟩
          have N3 := B3.out.setCell (p := ⟨g, 11, none⟩) hgg (.string (zs 1024 ++ ⟨#[120]⟩))
          have hy4 : At w4 w3.heap.size 25 [.int .i64 0, .int .u16 65535, .int .u16 65535, .int .u32 4294967295, .int .u32 4294967295, .bool false, .bool false, .bool false, .bool false, .int .u16 65535, .string (zs 40), .string (zs 1024)] := (At.new1 (At.of_new _ _ _) (by simp)).kept hb4
          have B4 := Lib.hid (allocThen N3 hb4)
          have d4 : w4.cell? ⟨w3.heap.size, 10, none⟩ = some (.string (zs 40)) := hy4.cell 10
          clear hb4 B3 N3 f d0 d1 d2 d3 d5 d6 d7 d8 d9 d10 d11 hy4 HX HL HP hlt G16 g16 hk
          go_wp2_with fail
          go_meet
          exact ⟨rfl, d4, B4.out⟩
        case rest =>
        obtain ⟨rfl, HS00⟩ := hcut
        clear f d0 d1 d2 d3 d5 d6 d7 d8 d9 d10 d11 HX HL HP hlt G16 g16 hk B3
        go_upto_region 19 with fail
        have M2 : ∀ w, (Instr.makeSlice 45 (.int .i64 1025) (.int .i64 1025)).run Try.prog w = .ok (.slice (some ⟨w.heap.size, 0, none⟩) 1025 1025) (w.alloc (.cells (cellsOf (zl 1025)).toArray 5)) := fun w => make_u8 1025 (by omega) w
        have C2 : ∀ W g, At W g 5 (cellsOf (zl 1025)) → (convert 45 9 (.slice (some ⟨g, 0, none⟩) 1025 1025)).run Try.prog W = .ok (.string (zs 1025)) W := fun W g h => by
          rw [conv_str 45 9 5 Try.underlying45 Try.underlying5 Try.underlying9 W g _ (zl 1025) 0 1025 1025 h (by simp [zl]), List.drop_zero, List.take_of_length_le (by simp [zl])]; rfl
        have C3 : ∀ W : World, At (W.alloc (.cells (cellsOf (zl 1025)).toArray 5)) W.heap.size 5 (cellsOf (zl 1025)) := fun _ => At.of_new _ _ _
        have C4 : ∀ W : World, At (W.alloc (.cells (cellsOf (zl 1025)).toArray 5)).drew W.heap.size 5 (cellsOf (zl 1025)) := fun _ => At.of_new _ _ _
        have s1025 := zs_size 1025
        have HR : Hid (rightL (chapS.extract 0 20 ++ zs 1025).data.toList = 6) := by show _ = _; decide +kernel
        simp only [List.append_eq, List.cons_append, List.nil_append]
        have HS0 := HS00
        clear HS00
        refine wp_region_order 101 [(0, true), (1, false), (2, true), (3, true), (4, true), (5, true), (6, true), (7, true), (8, true), (9, true), (10, true), (11, true), (12, true), (13, true), (14, true), (15, true), (16, true), (17, true), (18, true), (19, true), (20, true), (21, true), (22, true), (23, true), (24, true), (25, true), (26, true), (27, false), (28, true), (29, true), (30, true), (31, true), (32, true), (33, true), (34, true), (35, true), (36, false), (37, true), (38, true), (39, true), (40, true), (41, true), (42, true), (43, true), (44, true), (45, false), (46, true), (47, true), (48, true), (49, true), (50, true), (51, true), (52, true), (53, true), (54, false), (55, true), (56, true), (57, true), (58, true), (59, true), (60, true), (61, true), (62, true), (63, false), (64, true), (65, true), (66, true), (67, true), (68, true), (69, true), (70, true), (71, true), (72, false), (73, true), (74, true), (75, true), (76, true), (77, true), (78, true), (79, true), (80, true), (81, false), (82, true), (83, true), (84, true), (85, true), (86, false), (87, false), (88, true), (89, false), (90, true), (91, true), (92, true), (93, true), (94, true), (95, true), (96, true), (97, true), (98, false), (99, true), (100, true)] (SK w w3.heap.size (.string (zs 40))) (by kernel_rfl) (by kernel_rfl) (last_none (by simp)) rfl (order_of_N (by kernel_rfl)) (fun _ _ _ _ _ h => h) HS0.out.drew ?_
        have HS1 := Lib.hid HS0.out.drew
        clear HS0
        refine walkG_val (v := .bool true) rfl (by rfl) (fun _ _ => rfl) ?_
        simp only [Act.put, List.setIfInBounds_toArray, List.set_cons_zero, List.set_cons_succ]
        refine walkG_do rfl (by rfl) ?_
        go_simp
        refine (works_any _).mono ?_
        rintro e w6 ⟨rfl, hb⟩
        have HS2 := Lib.hid (HS1.out.kept hb)
        clear hb HS1
        refine ⟨HS2.out, ?_⟩
        refine walkG_val (v := .bool true) rfl (by rfl) (fun _ _ => rfl) ?_
        simp only [Act.put, List.setIfInBounds_toArray, List.set_cons_zero, List.set_cons_succ]
        refine walkG_val (v := .bool true) rfl (by rfl) (fun _ _ => rfl) ?_
        simp only [Act.put, List.setIfInBounds_toArray, List.set_cons_zero, List.set_cons_succ]
        refine walkG_val (v := .int .i64 0) rfl (by rfl) (fun _ _ => rfl) ?_
        simp only [Act.put, List.setIfInBounds_toArray, List.set_cons_zero, List.set_cons_succ]
        refine walkG_val (v := ?_) rfl (by rfl) (fun w' hS => ?_) ?_
        rotate_left
        · have s1 := hS.1
          clear hS
          go_simp
          exact rfl
        simp only [Act.put, List.setIfInBounds_toArray, List.set_cons_zero, List.set_cons_succ]
        refine walkG_val (v := .bool true) rfl (by rfl) (fun _ _ => rfl) ?_
        simp only [Act.put, List.setIfInBounds_toArray, List.set_cons_zero, List.set_cons_succ]
        refine walkG_val (v := .bool true) rfl (by rfl) (fun _ _ => rfl) ?_
        simp only [Act.put, List.setIfInBounds_toArray, List.set_cons_zero, List.set_cons_succ]
        refine walkG_val (v := .string T) rfl (by rfl) (fun _ _ => rfl) ?_
        simp only [Act.put, List.setIfInBounds_toArray, List.set_cons_zero, List.set_cons_succ]
        refine walkG_val (v := ?_) rfl (by rfl) (fun w' hS => ?_) ?_
        rotate_left
        · have s1 := hS.1
          clear hS
          go_simp
          exact rfl
        simp only [Act.put, List.setIfInBounds_toArray, List.set_cons_zero, List.set_cons_succ]
        refine walkG_val (v := ?_) rfl (by rfl) (fun w' hS => ?_) ?_
        rotate_left
        · have s1 := hS.1
          clear hS
          go_simp
          exact rfl
        simp only [Act.put, List.setIfInBounds_toArray, List.set_cons_zero, List.set_cons_succ]
        refine walkG_val (v := .bool true) rfl (by rfl) (fun _ _ => rfl) ?_
        simp only [Act.put, List.setIfInBounds_toArray, List.set_cons_zero, List.set_cons_succ]
        refine walkG_val (v := .bool true) rfl (by rfl) (fun _ _ => rfl) ?_
        simp only [Act.put, List.setIfInBounds_toArray, List.set_cons_zero, List.set_cons_succ]
        refine walkG_val (v := .int .i64 0) rfl (by rfl) (fun _ _ => rfl) ?_
        simp only [Act.put, List.setIfInBounds_toArray, List.set_cons_zero, List.set_cons_succ]
        refine walkG_val (v := ?_) rfl (by rfl) (fun w' hS => ?_) ?_
        rotate_left
        · have s1 := hS.1
          clear hS
          go_simp
          exact rfl
        simp only [Act.put, List.setIfInBounds_toArray, List.set_cons_zero, List.set_cons_succ]
        refine walkG_val (v := .bool true) rfl (by rfl) (fun _ _ => rfl) ?_
        simp only [Act.put, List.setIfInBounds_toArray, List.set_cons_zero, List.set_cons_succ]
        refine walkG_val (v := .bool true) rfl (by rfl) (fun _ _ => rfl) ?_
        simp only [Act.put, List.setIfInBounds_toArray, List.set_cons_zero, List.set_cons_succ]
        refine walkG_val (v := .pointer (some ⟨w3.heap.size, 10, none⟩)) rfl (by rfl) (fun _ _ => rfl) ?_
        simp only [Act.put, List.setIfInBounds_toArray, List.set_cons_zero, List.set_cons_succ]
        refine walkG_val (v := ?_) rfl (by rfl) (fun w' hS => ?_) ?_
        rotate_left
        · have s1 := hS.1
          clear hS
          go_simp
          exact rfl
        simp only [Act.put, List.setIfInBounds_toArray, List.set_cons_zero, List.set_cons_succ]
        refine walkG_val (v := ?_) rfl (by rfl) (fun w' hS => ?_) ?_
        rotate_left
        · have s1 := hS.1
          clear hS
          go_simp
          exact rfl
        simp only [Act.put, List.setIfInBounds_toArray, List.set_cons_zero, List.set_cons_succ]
        refine walkG_val (v := ?_) rfl (by rfl) (fun w' hS => ?_) ?_
        rotate_left
        · have s1 := hS.1
          clear hS
          go_simp
          exact rfl
        simp only [Act.put, List.setIfInBounds_toArray, List.set_cons_zero, List.set_cons_succ]
        refine walkG_val (v := .bool true) rfl (by rfl) (fun _ _ => rfl) ?_
        simp only [Act.put, List.setIfInBounds_toArray, List.set_cons_zero, List.set_cons_succ]
        refine walkG_val (v := .bool true) rfl (by rfl) (fun _ _ => rfl) ?_
        simp only [Act.put, List.setIfInBounds_toArray, List.set_cons_zero, List.set_cons_succ]
        refine walkG_val (v := .int .i64 6) rfl (by rfl) (fun _ _ => rfl) ?_
        simp only [Act.put, List.setIfInBounds_toArray, List.set_cons_zero, List.set_cons_succ]
        refine walkG_val (v := ?_) rfl (by rfl) (fun w' hS => ?_) ?_
        rotate_left
        · have s1 := hS.1
          clear hS
          go_simp
          exact rfl
        simp only [Act.put, List.setIfInBounds_toArray, List.set_cons_zero, List.set_cons_succ]
        refine walkG_val (v := .bool true) rfl (by rfl) (fun _ _ => rfl) ?_
        simp only [Act.put, List.setIfInBounds_toArray, List.set_cons_zero, List.set_cons_succ]
        refine walkG_val (v := .bool true) rfl (by rfl) (fun _ _ => rfl) ?_
        simp only [Act.put, List.setIfInBounds_toArray, List.set_cons_zero, List.set_cons_succ]
        refine walkG_do rfl (by rfl) ?_
        go_simp
        refine (refused_int _ _ _ (by decide +kernel) (by decide +kernel) (by decide +kernel)).mono ?_
        rintro e w7 ⟨rfl, hb⟩
        have HS3 := Lib.hid (HS2.out.kept hb)
        clear hb HS2
        refine ⟨HS3.out, ?_⟩
        refine walkG_val (v := .bool true) rfl (by rfl) (fun _ _ => rfl) ?_
        simp only [Act.put, List.setIfInBounds_toArray, List.set_cons_zero, List.set_cons_succ]
        refine walkG_val (v := .bool true) rfl (by rfl) (fun _ _ => rfl) ?_
        simp only [Act.put, List.setIfInBounds_toArray, List.set_cons_zero, List.set_cons_succ]
        refine walkG_val (v := .string chapS) rfl (by rfl) (fun _ _ => rfl) ?_
        simp only [Act.put, List.setIfInBounds_toArray, List.set_cons_zero, List.set_cons_succ]
        refine walkG_val (v := ?_) rfl (by rfl) (fun w' hS => ?_) ?_
        rotate_left
        · have s1 := hS.1
          clear hS
          go_simp
          exact rfl
        simp only [Act.put, List.setIfInBounds_toArray, List.set_cons_zero, List.set_cons_succ]
        refine walkG_val (v := ?_) rfl (by rfl) (fun w' hS => ?_) ?_
        rotate_left
        · have s1 := hS.1
          clear hS
          go_simp
          exact rfl
        simp only [Act.put, List.setIfInBounds_toArray, List.set_cons_zero, List.set_cons_succ]
        refine walkG_val (v := .string chapS) rfl (by rfl) (fun _ _ => rfl) ?_
        simp only [Act.put, List.setIfInBounds_toArray, List.set_cons_zero, List.set_cons_succ]
        refine walkG_val (v := ?_) rfl (by rfl) (fun w' hS => ?_) ?_
        rotate_left
        · have s1 := hS.1
          clear hS
          go_simp
          exact rfl
        simp only [Act.put, List.setIfInBounds_toArray, List.set_cons_zero, List.set_cons_succ]
        refine walkG_val (v := ?_) rfl (by rfl) (fun w' hS => ?_) ?_
        rotate_left
        · have s1 := hS.1
          clear hS
          go_simp
          exact rfl
        simp only [Act.put, List.setIfInBounds_toArray, List.set_cons_zero, List.set_cons_succ]
        refine walkG_do rfl (by rfl) ?_
        go_simp
        refine (refused_int _ _ _ (by decide +kernel) (by decide +kernel) (by decide +kernel)).mono ?_
        rintro e w8 ⟨rfl, hb⟩
        have HS4 := Lib.hid (HS3.out.kept hb)
        clear hb HS3
        refine ⟨HS4.out, ?_⟩
        refine walkG_val (v := .bool true) rfl (by rfl) (fun _ _ => rfl) ?_
        simp only [Act.put, List.setIfInBounds_toArray, List.set_cons_zero, List.set_cons_succ]
        refine walkG_val (v := .bool true) rfl (by rfl) (fun _ _ => rfl) ?_
        simp only [Act.put, List.setIfInBounds_toArray, List.set_cons_zero, List.set_cons_succ]
        refine walkG_val (v := .string chapS) rfl (by rfl) (fun _ _ => rfl) ?_
        simp only [Act.put, List.setIfInBounds_toArray, List.set_cons_zero, List.set_cons_succ]
        refine walkG_val (v := ?_) rfl (by rfl) (fun w' hS => ?_) ?_
        rotate_left
        · have s1 := hS.1
          clear hS
          go_simp
          exact rfl
        simp only [Act.put, List.setIfInBounds_toArray, List.set_cons_zero, List.set_cons_succ]
        refine walkG_val (v := ?_) rfl (by rfl) (fun w' hS => ?_) ?_
        rotate_left
        · have s1 := hS.1
          clear hS
          go_simp
          exact rfl
        simp only [Act.put, List.setIfInBounds_toArray, List.set_cons_zero, List.set_cons_succ]
        refine walkG_val (v := .string chapS) rfl (by rfl) (fun _ _ => rfl) ?_
        simp only [Act.put, List.setIfInBounds_toArray, List.set_cons_zero, List.set_cons_succ]
        refine walkG_val (v := ?_) rfl (by rfl) (fun w' hS => ?_) ?_
        rotate_left
        · have s1 := hS.1
          clear hS
          go_simp
          exact rfl
        simp only [Act.put, List.setIfInBounds_toArray, List.set_cons_zero, List.set_cons_succ]
        refine walkG_val (v := ?_) rfl (by rfl) (fun w' hS => ?_) ?_
        rotate_left
        · have s1 := hS.1
          clear hS
          go_simp
          exact rfl
        simp only [Act.put, List.setIfInBounds_toArray, List.set_cons_zero, List.set_cons_succ]
        refine walkG_do rfl (by rfl) ?_
        go_simp
        refine (refused_int _ _ _ (by decide +kernel) (by decide +kernel) (by decide +kernel)).mono ?_
        rintro e w9 ⟨rfl, hb⟩
        have HS5 := Lib.hid (HS4.out.kept hb)
        clear hb HS4
        refine ⟨HS5.out, ?_⟩
        refine walkG_val (v := .bool true) rfl (by rfl) (fun _ _ => rfl) ?_
        simp only [Act.put, List.setIfInBounds_toArray, List.set_cons_zero, List.set_cons_succ]
        refine walkG_val (v := .bool true) rfl (by rfl) (fun _ _ => rfl) ?_
        simp only [Act.put, List.setIfInBounds_toArray, List.set_cons_zero, List.set_cons_succ]
        refine walkG_val (v := .string chapS) rfl (by rfl) (fun _ _ => rfl) ?_
        simp only [Act.put, List.setIfInBounds_toArray, List.set_cons_zero, List.set_cons_succ]
        refine walkG_val (v := ?_) rfl (by rfl) (fun w' hS => ?_) ?_
        rotate_left
        · have s1 := hS.1
          clear hS
          go_simp
          exact rfl
        simp only [Act.put, List.setIfInBounds_toArray, List.set_cons_zero, List.set_cons_succ]
        refine walkG_val (v := ?_) rfl (by rfl) (fun w' hS => ?_) ?_
        rotate_left
        · have s1 := hS.1
          clear hS
          go_simp
          exact rfl
        simp only [Act.put, List.setIfInBounds_toArray, List.set_cons_zero, List.set_cons_succ]
        refine walkG_val (v := .string chapS) rfl (by rfl) (fun _ _ => rfl) ?_
        simp only [Act.put, List.setIfInBounds_toArray, List.set_cons_zero, List.set_cons_succ]
        refine walkG_val (v := ?_) rfl (by rfl) (fun w' hS => ?_) ?_
        rotate_left
        · have s1 := hS.1
          clear hS
          go_simp
          exact rfl
        simp only [Act.put, List.setIfInBounds_toArray, List.set_cons_zero, List.set_cons_succ]
        refine walkG_val (v := ?_) rfl (by rfl) (fun w' hS => ?_) ?_
        rotate_left
        · have s1 := hS.1
          clear hS
          go_simp
          exact rfl
        simp only [Act.put, List.setIfInBounds_toArray, List.set_cons_zero, List.set_cons_succ]
        refine walkG_do rfl (by rfl) ?_
        go_simp
        refine (refused_int _ _ _ (by decide +kernel) (by decide +kernel) (by decide +kernel)).mono ?_
        rintro e w10 ⟨rfl, hb⟩
        have HS6 := Lib.hid (HS5.out.kept hb)
        clear hb HS5
        refine ⟨HS6.out, ?_⟩
        refine walkG_val (v := .bool true) rfl (by rfl) (fun _ _ => rfl) ?_
        simp only [Act.put, List.setIfInBounds_toArray, List.set_cons_zero, List.set_cons_succ]
        refine walkG_val (v := .bool true) rfl (by rfl) (fun _ _ => rfl) ?_
        simp only [Act.put, List.setIfInBounds_toArray, List.set_cons_zero, List.set_cons_succ]
        refine walkG_val (v := .string chapS) rfl (by rfl) (fun _ _ => rfl) ?_
        simp only [Act.put, List.setIfInBounds_toArray, List.set_cons_zero, List.set_cons_succ]
        refine walkG_val (v := ?_) rfl (by rfl) (fun w' hS => ?_) ?_
        rotate_left
        · have s1 := hS.1
          clear hS
          go_simp
          exact rfl
        simp only [Act.put, List.setIfInBounds_toArray, List.set_cons_zero, List.set_cons_succ]
        refine walkG_val (v := ?_) rfl (by rfl) (fun w' hS => ?_) ?_
        rotate_left
        · have s1 := hS.1
          clear hS
          go_simp
          exact rfl
        simp only [Act.put, List.setIfInBounds_toArray, List.set_cons_zero, List.set_cons_succ]
        refine walkG_val (v := .string chapS) rfl (by rfl) (fun _ _ => rfl) ?_
        simp only [Act.put, List.setIfInBounds_toArray, List.set_cons_zero, List.set_cons_succ]
        refine walkG_val (v := ?_) rfl (by rfl) (fun w' hS => ?_) ?_
        rotate_left
        · have s1 := hS.1
          clear hS
          go_simp
          exact rfl
        simp only [Act.put, List.setIfInBounds_toArray, List.set_cons_zero, List.set_cons_succ]
        refine walkG_val (v := ?_) rfl (by rfl) (fun w' hS => ?_) ?_
        rotate_left
        · have s1 := hS.1
          clear hS
          go_simp
          exact rfl
        simp only [Act.put, List.setIfInBounds_toArray, List.set_cons_zero, List.set_cons_succ]
        refine walkG_do rfl (by rfl) ?_
        go_simp
        refine (refused_int _ _ _ (by decide +kernel) (by decide +kernel) (by decide +kernel)).mono ?_
        rintro e w11 ⟨rfl, hb⟩
        have HS7 := Lib.hid (HS6.out.kept hb)
        clear hb HS6
        refine ⟨HS7.out, ?_⟩
        refine walkG_val (v := .bool true) rfl (by rfl) (fun _ _ => rfl) ?_
        simp only [Act.put, List.setIfInBounds_toArray, List.set_cons_zero, List.set_cons_succ]
        refine walkG_val (v := .bool true) rfl (by rfl) (fun _ _ => rfl) ?_
        simp only [Act.put, List.setIfInBounds_toArray, List.set_cons_zero, List.set_cons_succ]
        refine walkG_val (v := .string chapS) rfl (by rfl) (fun _ _ => rfl) ?_
        simp only [Act.put, List.setIfInBounds_toArray, List.set_cons_zero, List.set_cons_succ]
        refine walkG_val (v := ?_) rfl (by rfl) (fun w' hS => ?_) ?_
        rotate_left
        · have s1 := hS.1
          clear hS
          go_simp
          exact rfl
        simp only [Act.put, List.setIfInBounds_toArray, List.set_cons_zero, List.set_cons_succ]
        refine walkG_val (v := ?_) rfl (by rfl) (fun w' hS => ?_) ?_
        rotate_left
        · have s1 := hS.1
          clear hS
          go_simp
          exact rfl
        simp only [Act.put, List.setIfInBounds_toArray, List.set_cons_zero, List.set_cons_succ]
        refine walkG_val (v := .string chapS) rfl (by rfl) (fun _ _ => rfl) ?_
        simp only [Act.put, List.setIfInBounds_toArray, List.set_cons_zero, List.set_cons_succ]
        refine walkG_val (v := ?_) rfl (by rfl) (fun w' hS => ?_) ?_
        rotate_left
        · have s1 := hS.1
          clear hS
          go_simp
          exact rfl
        simp only [Act.put, List.setIfInBounds_toArray, List.set_cons_zero, List.set_cons_succ]
        refine walkG_val (v := ?_) rfl (by rfl) (fun w' hS => ?_) ?_
        rotate_left
        · have s1 := hS.1
          clear hS
          go_simp
          exact rfl
        simp only [Act.put, List.setIfInBounds_toArray, List.set_cons_zero, List.set_cons_succ]
        refine walkG_do rfl (by rfl) ?_
        go_simp
        refine (refused_int _ _ _ (by decide +kernel) (by decide +kernel) (by decide +kernel)).mono ?_
        rintro e w12 ⟨rfl, hb⟩
        have HS8 := Lib.hid (HS7.out.kept hb)
        clear hb HS7
        refine ⟨HS8.out, ?_⟩
        refine walkG_val (v := .bool true) rfl (by rfl) (fun _ _ => rfl) ?_
        simp only [Act.put, List.setIfInBounds_toArray, List.set_cons_zero, List.set_cons_succ]
        refine walkG_val (v := .bool true) rfl (by rfl) (fun _ _ => rfl) ?_
        simp only [Act.put, List.setIfInBounds_toArray, List.set_cons_zero, List.set_cons_succ]
        refine walkG_val (v := .string chapS) rfl (by rfl) (fun _ _ => rfl) ?_
        simp only [Act.put, List.setIfInBounds_toArray, List.set_cons_zero, List.set_cons_succ]
        refine walkG_val (v := ?_) rfl (by rfl) (fun w' hS => ?_) ?_
        rotate_left
        · have s1 := hS.1
          clear hS
          go_simp
          exact rfl
        simp only [Act.put, List.setIfInBounds_toArray, List.set_cons_zero, List.set_cons_succ]
        refine walkG_val (v := ?_) rfl (by rfl) (fun w' hS => ?_) ?_
        rotate_left
        · have s1 := hS.1
          clear hS
          go_simp
          exact rfl
        simp only [Act.put, List.setIfInBounds_toArray, List.set_cons_zero, List.set_cons_succ]
        refine walkG_val (v := .string chapS) rfl (by rfl) (fun _ _ => rfl) ?_
        simp only [Act.put, List.setIfInBounds_toArray, List.set_cons_zero, List.set_cons_succ]
        refine walkG_val (v := ?_) rfl (by rfl) (fun w' hS => ?_) ?_
        rotate_left
        · have s1 := hS.1
          clear hS
          go_simp
          exact rfl
        simp only [Act.put, List.setIfInBounds_toArray, List.set_cons_zero, List.set_cons_succ]
        refine walkG_val (v := ?_) rfl (by rfl) (fun w' hS => ?_) ?_
        rotate_left
        · have s1 := hS.1
          clear hS
          go_simp
          exact rfl
        simp only [Act.put, List.setIfInBounds_toArray, List.set_cons_zero, List.set_cons_succ]
        refine walkG_do rfl (by rfl) ?_
        go_simp
        refine (refused_int _ _ _ (by decide +kernel) (by decide +kernel) (by decide +kernel)).mono ?_
        rintro e w13 ⟨rfl, hb⟩
        have HS9 := Lib.hid (HS8.out.kept hb)
        clear hb HS8
        refine ⟨HS9.out, ?_⟩
        refine walkG_val (v := .bool true) rfl (by rfl) (fun _ _ => rfl) ?_
        simp only [Act.put, List.setIfInBounds_toArray, List.set_cons_zero, List.set_cons_succ]
        refine walkG_val (v := .bool true) rfl (by rfl) (fun _ _ => rfl) ?_
        simp only [Act.put, List.setIfInBounds_toArray, List.set_cons_zero, List.set_cons_succ]
        refine walkG_val (v := .string chapS) rfl (by rfl) (fun _ _ => rfl) ?_
        simp only [Act.put, List.setIfInBounds_toArray, List.set_cons_zero, List.set_cons_succ]
        refine walkG_val (v := ?_) rfl (by rfl) (fun w' hS => ?_) ?_
        rotate_left
        · have s1 := hS.1
          clear hS
          go_simp
          exact rfl
        simp only [Act.put, List.setIfInBounds_toArray, List.set_cons_zero, List.set_cons_succ]
        refine walkG_do rfl (by rfl) ?_
        go_simp
        have HS10 := Lib.hid (HS9.out.alloc (.cells (cellsOf (zl 1025)).toArray 5))
        clear HS9
        refine ⟨HS10.out, ?_⟩
        refine walkG_do rfl (by rfl) ?_
        go_simp
        have HS11 := HS10
        clear HS10
        refine ⟨HS11.out, ?_⟩
        refine walkG_val (v := ?_) rfl (by rfl) (fun w' hS => ?_) ?_
        rotate_left
        · have s1 := hS.1
          clear hS
          go_simp
          exact rfl
        simp only [Act.put, List.setIfInBounds_toArray, List.set_cons_zero, List.set_cons_succ]
        refine walkG_do rfl (by rfl) ?_
        go_simp
        refine (refused_int _ _ _ (by decide +kernel) (by decide +kernel) (by decide +kernel)).mono ?_
        rintro e w16 ⟨rfl, hb⟩
        have HS12 := Lib.hid (HS11.out.kept hb)
        clear hb HS11
        refine ⟨HS12.out, ?_⟩
        refine walkG_val (v := .bool true) rfl (by rfl) (fun _ _ => rfl) ?_
        simp only [Act.put, List.setIfInBounds_toArray, List.set_cons_zero, List.set_cons_succ]
        refine walkG_val (v := .bool true) rfl (by rfl) (fun _ _ => rfl) ?_
        simp only [Act.put, List.setIfInBounds_toArray, List.set_cons_zero, List.set_cons_succ]
        refine walkG_val (v := .string chapS) rfl (by rfl) (fun _ _ => rfl) ?_
        simp only [Act.put, List.setIfInBounds_toArray, List.set_cons_zero, List.set_cons_succ]
        refine walkG_val (v := ?_) rfl (by rfl) (fun w' hS => ?_) ?_
        rotate_left
        · have s1 := hS.1
          clear hS
          go_simp
          exact rfl
        simp only [Act.put, List.setIfInBounds_toArray, List.set_cons_zero, List.set_cons_succ]
        refine walkG_val (v := ?_) rfl (by rfl) (fun w' hS => ?_) ?_
        rotate_left
        · have s1 := hS.1
          clear hS
          go_simp
          exact rfl
        simp only [Act.put, List.setIfInBounds_toArray, List.set_cons_zero, List.set_cons_succ]
        refine walkG_val (v := .string chapS) rfl (by rfl) (fun _ _ => rfl) ?_
        simp only [Act.put, List.setIfInBounds_toArray, List.set_cons_zero, List.set_cons_succ]
        refine walkG_val (v := ?_) rfl (by rfl) (fun w' hS => ?_) ?_
        rotate_left
        · have s1 := hS.1
          clear hS
          go_simp
          exact rfl
        simp only [Act.put, List.setIfInBounds_toArray, List.set_cons_zero, List.set_cons_succ]
        refine walkG_val (v := ?_) rfl (by rfl) (fun w' hS => ?_) ?_
        rotate_left
        · have s1 := hS.1
          clear hS
          go_simp
          exact rfl
        simp only [Act.put, List.setIfInBounds_toArray, List.set_cons_zero, List.set_cons_succ]
        refine walkG_do rfl (by rfl) ?_
        go_simp
        refine (refused_int _ _ _ (by decide +kernel) (by decide +kernel) (by decide +kernel)).mono ?_
        rintro e w17 ⟨rfl, hb⟩
        have HS13 := Lib.hid (HS12.out.kept hb)
        clear hb HS12
        refine ⟨HS13.out, ?_⟩
        refine walkG_val (v := .bool true) rfl (by rfl) (fun _ _ => rfl) ?_
        simp only [Act.put, List.setIfInBounds_toArray, List.set_cons_zero, List.set_cons_succ]
        refine walkG_val (v := .bool true) rfl (by rfl) (fun _ _ => rfl) ?_
        simp only [Act.put, List.setIfInBounds_toArray, List.set_cons_zero, List.set_cons_succ]
        simp only [walkG]
        go_wp2_with fail
        go_ret
        exact ⟨rfl, HS13.out.2⟩
end Go.Proofs.Ytdbakdkhjijjhaa
