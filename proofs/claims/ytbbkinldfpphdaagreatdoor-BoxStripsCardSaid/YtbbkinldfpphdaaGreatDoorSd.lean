/- A draft's segment, walked. -/
import Derived.Test.YtbbkinldfpphdaaGreatDoorOd
import Derived.Test.YtbbkinldfpphdaaGreatDoorE1
import Derived.Test.YtbbkinldfpphdaaGreatDoorCi
namespace Go.Proofs.YtbbkinldfpphdaaGreatDoor
open Go.RowKit Pl

def Dr.cs (d : Dr) : List Value := [.int .u16 d.src, .int .u16 d.dst, .int .u16 d.win, .int .u32 d.seq, .int .u32 d.ack, .int .u8 d.flags, d.kv, .string d.body, .string d.data]
/-- A draft's items. -/
def drBody (d : Dr) : ByteArray := d.body.extract 0 (min d.body.size 8)
def drItem (b : ByteArray) (z : Nat) : It := (2 + (z : Int) % 40, b.extract 0 (z % (b.size + 1)))
def drItems (d : Dr) : List It := (d.zs.take 4).map (drItem (drBody d))
/-- A draft's segment. -/
def drSeg (d : Dr) : Sg := ⟨d.src, d.dst, d.seq, d.ack, decide (d.flags % 16 = 1), decide (0 < d.flags / 64), decide (d.flags / 16 % 4 = 1), decide (d.flags % 16 = 2), d.win, (layI (drItems d)).1, d.data.extract 0 (min d.data.size 100)⟩

set_option maxRecDepth 20000 in
set_option maxHeartbeats 8000000 in
theorem draft_any (d : Dr) (w : World) (hd : d.Ok w) :
    Calls Tryz.prog 5 #[d.v] w fun e w' => e = .returned (drSeg d).v ∧ Below w.heap.size w w' := by
  obtain ⟨x, hx⟩ : ∃ x, drSeg d = x := ⟨_, rfl⟩
  rw [hx]
  have HX := Lib.hid hx
  clear hx
  obtain ⟨src, dst, win, seq, ack, flags, kv, zs, body, data⟩ := d
  have hbz := hd.h7
  have hdz := hd.h8
  have h5 := hd.h5
  have hK : Kinds w kv zs := hd.h6
  have HK := Lib.hid hK
  clear hK
  simp only at hbz hdz h5
  clear hd
  unfold Dr.v
  obtain ⟨nd, hnd⟩ : ∃ n, min data.size 100 = n := ⟨_, rfl⟩
  have hndl : nd ≤ data.size := by omega
  have hndm : (if (100 : Int) < (data.size : Int) then (100 : Int) else (data.size : Int)) = (nd : Int) := by split <;> omega
  have i0 : (0 : Int) ≤ (nd : Int) := by omega
  have i1 : (nd : Int) ≤ (data.size : Int) := by omega
  have HND := Lib.hid hnd
  clear hnd
  obtain ⟨fs, hfs⟩ : ∃ b, decide (flags % 16 = 1) = b := ⟨_, rfl⟩
  obtain ⟨fr, hfr⟩ : ∃ b, decide (flags % 16 = 2) = b := ⟨_, rfl⟩
  obtain ⟨ff, hff⟩ : ∃ b, decide (flags / 16 % 4 = 1) = b := ⟨_, rfl⟩
  obtain ⟨fa, hfa⟩ : ∃ b, decide (0 < flags / 64) = b := ⟨_, rfl⟩
  have w16 : IntKind.u8.wrap ((flags : Int) / 16) = ((flags / 16 : Nat) : Int) := by rw [IntKind.wrap_u8]; omega
  have w64 : IntKind.u8.wrap ((flags : Int) / 64) = ((flags / 64 : Nat) : Int) := by rw [IntKind.wrap_u8]; omega
  have f1 : ((flags : Int).tmod 16 == 1) = fs := by rw [← hfs, Int.tmod_eq_emod_of_nonneg (by omega), Bool.eq_iff_iff]; simp; omega
  have f2 : ((flags : Int).tmod 16 == 2) = fr := by rw [← hfr, Int.tmod_eq_emod_of_nonneg (by omega), Bool.eq_iff_iff]; simp; omega
  have f3 : ((IntKind.u8.wrap ((flags : Int) / 16)).tmod 4 == 1) = ff := by rw [← hff, w16, Int.tmod_eq_emod_of_nonneg (by omega), Bool.eq_iff_iff]; simp; omega
  have f4 : decide (0 < IntKind.u8.wrap ((flags : Int) / 64)) = fa := by rw [← hfa, w64, Bool.eq_iff_iff]; simp; omega
  have HF := Lib.hid (And.intro hfs (And.intro hfr (And.intro hff hfa)))
  clear w16 w64 hfs hfr hff hfa
  go_enter Tryz.func5, Tryz.ntmps5
  go_upto_region 1 with fail
  obtain ⟨W2, hW2⟩ : ∃ W2, ((w.alloc (.cells #[.int .u16 src, .int .u16 dst, .int .u16 win, .int .u32 seq, .int .u32 ack, .int .u8 flags, kv, .string body, .string data] 26)).alloc (.cells #[.int .i64 0, .int .u16 0, .int .u16 0, .int .u32 0, .int .u32 0, .bool false, .bool false, .bool false, .bool false, .int .u16 0, .string ⟨#[]⟩, .string ⟨#[]⟩] 29)) = W2 := ⟨_, rfl⟩
  rw [hW2]
  have hD2 : At W2 w.heap.size 26 [.int .u16 src, .int .u16 dst, .int .u16 win, .int .u32 seq, .int .u32 ack, .int .u8 flags, kv, .string body, .string data] := by rw [← hW2]; exact (At.of_new _ _ _).alloc _
  have hR2 : At W2 (w.heap.size + 1) 29 [.int .i64 0, .int .u16 0, .int .u16 0, .int .u32 0, .int .u32 0, .bool false, .bool false, .bool false, .bool false, .int .u16 0, .string ⟨#[]⟩, .string ⟨#[]⟩] := by rw [← hW2]; exact At.new1 (At.of_new _ _ _) (by simp)
  have hB2 : Below w.heap.size w W2 := by rw [← hW2]; exact ((Below.refl _ _).alloc (Nat.le_refl _) _).alloc (by simp) _
  have HD := Lib.hid hD2
  have HR := Lib.hid hR2
  have HB := Lib.hid hB2
  clear hD2 hR2 hB2 hW2
  refine wp_region_order 36 [(0, true), (1, true), (2, true), (3, true), (4, true), (5, true), (6, true), (7, true), (8, true), (9, true), (10, true), (11, true), (12, true), (13, true), (14, true), (15, true), (16, true), (17, true), (18, true), (19, true), (20, true), (21, true), (22, true), (23, true), (24, true), (25, true), (26, true), (27, true), (28, true), (29, true), (30, true), (31, true), (32, true), (33, true), (34, true), (35, false), (36, false)] (fun W => At W w.heap.size 26 [.int .u16 src, .int .u16 dst, .int .u16 win, .int .u32 seq, .int .u32 ack, .int .u8 flags, kv, .string body, .string data]) (by kernel_rfl) (by kernel_rfl) (by kernel_rfl) rfl (order_of_N (by kernel_rfl)) (fun _ _ _ _ _ h => h) HD.out.drew ?_
  iterate 32
    refine walkG_val (v := ?_) rfl (by rfl) (fun w' hS => ?_) ?_
    rotate_left
    · have s0 := hS.cell 0
      have s1 := hS.cell 1
      have s2 := hS.cell 2
      have s3 := hS.cell 3
      have s4 := hS.cell 4
      have s5 := hS.cell 5
      have s8 := hS.cell 8
      simp only [List.getElem?_cons_zero, List.getElem?_cons_succ] at s0 s1 s2 s3 s4 s5 s8
      clear hS
      go_simp
      exact rfl
    simp only [Act.put, List.setIfInBounds_toArray, List.set_cons_zero, List.set_cons_succ]
  iterate 3
    refine walkG_val (v := ?_) rfl (by rfl) (fun w' hS => ?_) ?_
    rotate_left
    · clear hS
      go_simp
      exact rfl
    simp only [Act.put, List.setIfInBounds_toArray, List.set_cons_zero, List.set_cons_succ]
  refine walkG_do rfl (by rfl) ?_
  go_simp
  refine ⟨(HD.out.drew.alloc _), ?_⟩
  refine walkG_do rfl (by rfl) ?_
  go_simp
  simp only [walkG]
  obtain ⟨dd, hdd⟩ : ∃ b, data.extract 0 nd = b := ⟨_, rfl⟩
  rw [hdd]
  have HDD := Lib.hid hdd
  clear hdd
  obtain ⟨W3, hW3⟩ : ∃ W3, (W2.alloc (.cells #[.int .i64 0, .int .u16 src, .int .u16 dst, .int .u32 seq, .int .u32 ack, .bool fs, .bool fa, .bool ff, .bool fr, .int .u16 win, .string ⟨#[]⟩, .string dd] 29)).drew = W3 := ⟨_, rfl⟩
  rw [hW3]
  have hD3 : At W3 w.heap.size 26 [.int .u16 src, .int .u16 dst, .int .u16 win, .int .u32 seq, .int .u32 ack, .int .u8 flags, kv, .string body, .string data] := by rw [← hW3]; exact (HD.out.alloc _).drew
  have hR3 : At W3 (w.heap.size + 1) 29 [.int .i64 0, .int .u16 0, .int .u16 0, .int .u32 0, .int .u32 0, .bool false, .bool false, .bool false, .bool false, .int .u16 0, .string ⟨#[]⟩, .string ⟨#[]⟩] := by rw [← hW3]; exact (HR.out.alloc _).drew
  have hX3 : At W3 W2.heap.size 29 [.int .i64 0, .int .u16 src, .int .u16 dst, .int .u32 seq, .int .u32 ack, .bool fs, .bool fa, .bool ff, .bool fr, .int .u16 win, .string ⟨#[]⟩, .string dd] := by rw [← hW3]; exact (At.of_new _ _ _).drew
  have hB3 : Below w.heap.size w W3 := by rw [← hW3]; exact (HB.out.alloc HB.out.size _).drew
  have hl1 : w.heap.size + 1 < W2.heap.size := HR.out.lt
  have hl2 : W2.heap.size < W3.heap.size := hX3.lt
  have HD3 := Lib.hid hD3
  have HR3 := Lib.hid hR3
  have HX3 := Lib.hid hX3
  have HB3 := Lib.hid hB3
  have d6 := hD3.cell 6
  have d7 := hD3.cell 7
  simp only [List.getElem?_cons_zero, List.getElem?_cons_succ] at d6 d7
  clear hD3 hR3 hX3 hB3 hW3 HD HR HB f1 f2 f3 f4 hndm i0 i1
  obtain ⟨nb, hnb⟩ : ∃ n, min body.size 8 = n := ⟨_, rfl⟩
  have hnb8 : nb ≤ 8 := by omega
  have hnbl : nb ≤ body.size := by omega
  have hnbm : (if (8 : Int) < (body.size : Int) then (8 : Int) else (body.size : Int)) = (nb : Int) := by split <;> omega
  have i0 : (0 : Int) ≤ (nb : Int) := by omega
  have i1 : (nb : Int) ≤ (body.size : Int) := by omega
  obtain ⟨bb, hbb⟩ : ∃ b, body.extract 0 nb = b := ⟨_, rfl⟩
  have hbs : bb.size ≤ 8 := by rw [← hbb, ByteArray.size_extract]; omega
  have HBB : Hid (drBody ⟨src, dst, win, seq, ack, flags, kv, zs, body, data⟩ = bb) := by
    show body.extract 0 (min body.size 8) = bb
    rw [hnb, hbb]
  have HN := Lib.hid hnb
  clear hnb
  obtain ⟨b, cap, rfl, hc⟩ : ∃ b c, kv = .slice b zs.length c ∧ ∀ (i z : Nat), zs[i]? = some z → ∃ a, b = some a ∧ w.cell? (a.add i) = some (.int .u8 z) ∧ z < 256 := by
    rcases HK.out with ⟨rfl, rfl⟩ | ⟨a, cap, rfl, hc⟩
    · exact ⟨_, _, rfl, fun i z hz => by simp at hz⟩
    · exact ⟨_, _, rfl, fun i z hz => ⟨a, rfl, hc i z hz⟩⟩
  have HC := Lib.hid hc
  obtain ⟨n, en⟩ : ∃ n, zs.length = n := ⟨_, rfl⟩
  rw [en] at d6 ⊢
  have HNL := Lib.hid en
  clear hc en HK
  obtain ⟨j0, hi, hz0, hz1, hz2⟩ := info_parts info_item
  go_wp2_with fail
  go_loopw [4, 6] (fun v4 i wr => ∃ m : Nat, m ≤ 4 ∧ m ≤ n ∧ i = .int .i64 m ∧ Hid (wr.ownsRow W3.heap.size 36 2 v4 m (cellsIt ((zs.take m).map (drItem bb)))) ∧ Hid (Below W3.heap.size W3 wr)) (fun _ i _ => n - (intOf i).toNat)
  case atStart => exact ⟨0, by omega, Nat.zero_le _, rfl, World.ownsRow_nil _ _ _ _, Below.refl _ _⟩
  case round =>
    obtain ⟨m, hm4, hm, rfl, HO, HB⟩ := hrel
    have e6 : wr.cell? ⟨w.heap.size, 6, none⟩ = some (.slice b n cap) := (HB.out.cell (p := ⟨w.heap.size, 6, none⟩) (by simp; omega)).trans d6
    by_cases hlt : m < n ∧ m < 4
    · obtain ⟨hlt, hlt4⟩ := hlt
      have t1 : decide (m < n) = true := by simpa using hlt
      have t2 : decide ((m : Int) < 4) = true := by simp; omega
      have hml : m < zs.length := by rw [HNL.out]; exact hlt
      obtain ⟨z, hz⟩ : ∃ z, zs[m]? = some z := ⟨_, List.getElem?_eq_getElem hml⟩
      obtain ⟨ad, rfl, k1, k2⟩ := HC.out m z hz
      have hB3w := HB3.out.trans (HB.out.mono HB3.out.size)
      have c1 : wr.cell? (ad.add m) = some (.int .u8 z) := (hB3w.cell (p := ad.add m) (block_lt_of_cell k1)).trans k1
      have HZ := Lib.hid hz
      obtain ⟨q, hq⟩ : ∃ q, z % (bb.size + 1) = q := ⟨_, rfl⟩
      have hql : q ≤ bb.size := by have := Nat.mod_lt z (show 0 < bb.size + 1 by omega); omega
      have hqt : (z : Int).tmod ((bb.size : Int) + 1) = (q : Int) := by rw [Int.tmod_eq_emod_of_nonneg (by omega), ← hq]; rfl
      have hqe : (z : Int) % ((bb.size : Int) + 1) = (q : Int) := by rw [← hq]; rfl
      have hnz : ¬ (bb.size : Int) + 1 = 0 := by omega
      have hw1 : IntKind.i64.wrap ((bb.size : Int) + 1) = (bb.size : Int) + 1 := IntWalk.i64_in _ (by omega)
      have j1 : (0 : Int) ≤ (q : Int) := by omega
      have j2 : (q : Int) ≤ (bb.size : Int) := by omega
      obtain ⟨kd, hkd⟩ : ∃ kd : Int, 2 + (z : Int) % 40 = kd := ⟨_, rfl⟩
      have hkt : IntKind.i64.wrap (2 + (z : Int) % 40) = kd := by rw [← hkd]; exact IntWalk.i64_in _ (by omega)
      have HQ := Lib.hid (And.intro hq hkd)
      clear k1 hz hB3w hq
      go_wp2_with (at_builtin; refine wpList_append_own _ rfl _ _ 31 rfl W3.heap.size 36 j0 (.agg #[.int .i64 0, .string ⟨#[]⟩]) 2 24 Tryz.underlying31 hi hz0 hz1 hz2 rfl (by decide) _ _ _ rfl (HO.out.alloc _) ⟨wr.heap.size, 0, none⟩ 1 1 [.int .i64 kd, .string (bb.extract 0 q)] rfl rfl ?c1 ?c2 ?c3 ?c4 ?c5 ?_)
      case c1 =>
        intro j u hu
        have hA := At.of_new wr 36 #[.int .i64 kd, .string (bb.extract 0 q)]
        match j, hu with
        | 0, hu => simp at hu; subst hu; exact hA.cell 0
        | 1, hu => simp at hu; subst hu; exact hA.cell 1
        | _ + 2, hu => simp at hu
      case c2 => intro u hu; simp at hu; rcases hu with rfl | rfl <;> rfl
      case c3 => exact (by simp only [maxLen]; omega)
      case c4 => omega
      case c5 => have := HB.out.size; simp; omega
      intro v' w4 hown' hgrow _
      have hb4 : Below W3.heap.size W3 w4 := (HB.out.alloc HB.out.size _).grown hgrow (by have := HB.out.size; simp; omega) (fun k hk => (HO.out.lt k hk).1)
      have HO4 := Lib.hid hown'
      have HB4 := Lib.hid hb4
      clear hown' hgrow hb4 HO
      go_wp2_with fail
      refine ⟨⟨m + 1, by omega, by omega, int_eq (by omega), ?_, HB4.out⟩, by simp [intOf]; omega⟩
      have h := HO4.out
      have e : (zs.take (m + 1)).map (drItem bb) = (zs.take m).map (drItem bb) ++ [drItem bb z] := by rw [List.take_add_one, HZ.out]; simp
      have e2 : drItem bb z = (kd, bb.extract 0 q) := by unfold drItem; rw [HQ.out.1, HQ.out.2]
      show w4.ownsRow _ _ _ _ _ _
      rw [e, e2]
      rw [← List.map_take] at h
      unfold cellsIt at h ⊢
      rw [List.flatMap_append]
      exact h
    · have HIt : Hid (Items wr u4 (drItems ⟨src, dst, win, seq, ack, flags, .slice b zs.length cap, zs, body, data⟩)) := by
        have hl : ((zs.take m).map (drItem bb)).length = m := by rw [List.length_map, List.length_take, HNL.out]; omega
        have h : wr.ownsRow W3.heap.size 36 2 u4 ((zs.take m).map (drItem bb)).length (cellsIt ((zs.take m).map (drItem bb))) := by rw [hl]; exact HO.out
        have e : drItems ⟨src, dst, win, seq, ack, flags, .slice b zs.length cap, zs, body, data⟩ = (zs.take m).map (drItem bb) := by
          unfold drItems
          show (zs.take 4).map (drItem (drBody _)) = _
          have hbb : drBody ⟨src, dst, win, seq, ack, flags, .slice b zs.length cap, zs, body, data⟩ = bb := HBB.out
          rw [hbb]
          congr 1
          have hn := HNL.out
          rcases Nat.lt_or_ge m 4 with h4 | h4
          · rw [List.take_of_length_le (by omega), List.take_of_length_le (by omega)]
          · rw [show m = 4 by omega]
        show Items _ _ _
        rw [e]; exact items_own h
      obtain ⟨xs, exs⟩ : ∃ xs, drItems ⟨src, dst, win, seq, ack, flags, .slice b zs.length cap, zs, body, data⟩ = xs := ⟨_, rfl⟩
      rw [exs] at HIt
      have hxl : xs.length ≤ 4 := by rw [← exs]; unfold drItems; rw [List.length_map, List.length_take]; omega
      have HLY := Lib.hid (rlay4_any u4 xs wr HIt.out (by omega))
      have hxe : Hid (⟨src, dst, seq, ack, fs, fa, ff, fr, win, (layI xs).1, dd⟩ = x) := by
        show _ = x
        rw [← HX.out]
        unfold drSeg
        obtain ⟨k1, k2, k3, k4⟩ := HF.out
        show _ = (⟨src, dst, seq, ack, decide (flags % 16 = 1), decide (0 < flags / 64), decide (flags / 16 % 4 = 1), decide (flags % 16 = 2), win, (layI (drItems _)).1, data.extract 0 (min data.size 100)⟩ : Sg)
        rw [exs, k1, k2, k3, k4, HND.out, HDD.out]
      clear exs HX HF HND HDD HN HBB HC HNL
      obtain ⟨ar, har⟩ : ∃ a, (layI xs).1 = a := ⟨_, rfl⟩
      obtain ⟨lk, hlk⟩ : ∃ a, (layI xs).2 = a := ⟨_, rfl⟩
      rw [har] at HLY hxe
      rw [hlk] at HLY
      clear har hlk HO
      have hX4 := HX3.out.kept HB.out
      have hR4 := HR3.out.kept HB.out
      have HB4 := Lib.hid (HB3.out.trans (HB.out.mono HB3.out.size))
      have HX4 := Lib.hid hX4
      have HR4 := Lib.hid hR4
      clear hX4 hR4 HX3 HR3 HB3 HIt
      rcases Nat.lt_or_ge m n with hlt2 | hge2
      · have t1 : decide (m < n) = true := by simpa using hlt2
        have t2 : decide ((m : Int) < 4) = false := by simp; omega
        go_wp2_with fail
        refine HLY.out.mono ?_
        rintro e w5 ⟨rfl, hb5⟩
        have HX5 := Lib.hid (HX4.out.kept hb5)
        have HR5 := Lib.hid (HR4.out.kept hb5)
        have HB5 := Lib.hid (HB4.out.trans (hb5.mono HB4.out.size))
        have hX5 := HX5.out
        have hR5 := HR5.out
        obtain ⟨fx, x0, x1, x2, x3, x4, x5, x6, x7, x8, x9, x10, x11⟩ := hX5.cells12
        obtain ⟨fy, y0, y1, y2, y3, y4, y5, y6, y7, y8, y9, y10, y11⟩ := hR5.cells12
        have hne : w.heap.size + 1 ≠ W2.heap.size := by omega
        have hne2 : W2.heap.size ≠ w.heap.size + 1 := by omega
        have HR6 := Lib.hid (HR5.out.far (p := ⟨W2.heap.size, 10, none⟩) hne (.string ar))
        have HB6 := Lib.hid (HB5.out.setCell (p := ⟨W2.heap.size, 10, none⟩) (by simp; omega) (.string ar))
        clear hX5 hR5 hb5 HB4 HX4 HR4 HLY
        go_wp2_with fail
        refine chain12 (motive := fun W => bodyPost _ _ _ _ _ W) HR6.out ?_
        intro W7 hA7 hO7
        have hL := seg_loadVar hA7 (by rfl)
        have hfin := below_only HB6.out hO7 HB6.out.size (by omega)
        refine bodyPost_ret (v := x.v) (by rw [← hxe.out]; simp [results, Tryz.results5, asAddr, hL, Sg.v]) rfl ⟨rfl, hfin⟩
      · have t1 : decide (m < n) = false := by simp; omega
        go_wp2_with fail
        refine HLY.out.mono ?_
        rintro e w5 ⟨rfl, hb5⟩
        have HX5 := Lib.hid (HX4.out.kept hb5)
        have HR5 := Lib.hid (HR4.out.kept hb5)
        have HB5 := Lib.hid (HB4.out.trans (hb5.mono HB4.out.size))
        have hX5 := HX5.out
        have hR5 := HR5.out
        obtain ⟨fx, x0, x1, x2, x3, x4, x5, x6, x7, x8, x9, x10, x11⟩ := hX5.cells12
        obtain ⟨fy, y0, y1, y2, y3, y4, y5, y6, y7, y8, y9, y10, y11⟩ := hR5.cells12
        have hne : w.heap.size + 1 ≠ W2.heap.size := by omega
        have hne2 : W2.heap.size ≠ w.heap.size + 1 := by omega
        have HR6 := Lib.hid (HR5.out.far (p := ⟨W2.heap.size, 10, none⟩) hne (.string ar))
        have HB6 := Lib.hid (HB5.out.setCell (p := ⟨W2.heap.size, 10, none⟩) (by simp; omega) (.string ar))
        clear hX5 hR5 hb5 HB4 HX4 HR4 HLY
        go_wp2_with fail
        refine chain12 (motive := fun W => bodyPost _ _ _ _ _ W) HR6.out ?_
        intro W7 hA7 hO7
        have hL := seg_loadVar hA7 (by rfl)
        have hfin := below_only HB6.out hO7 HB6.out.size (by omega)
        refine bodyPost_ret (v := x.v) (by rw [← hxe.out]; simp [results, Tryz.results5, asAddr, hL, Sg.v]) rfl ⟨rfl, hfin⟩


theorem drItem_may (b : ByteArray) (h : b.size ≤ 8) (z : Nat) : mayI (drItem b z) ∧ (itemL (drItem b z)).length ≤ 10 := by
  have hz : (b.extract 0 (z % (b.size + 1))).size ≤ 8 := by rw [ByteArray.size_extract]; omega
  refine ⟨⟨?_, ?_, ?_⟩, ?_⟩
  · show (1 : Int) < 2 + (z : Int) % 40; omega
  · show 2 + (z : Int) % 40 ≤ 255; omega
  · show (b.extract 0 (z % (b.size + 1))).size ≤ 253; omega
  · rw [itemL_length]; show 2 + (b.extract 0 (z % (b.size + 1))).size ≤ 10; omega
theorem drItems_len (b : ByteArray) (h : b.size ≤ 8) : ∀ zs : List Nat, (itemsL (zs.map (drItem b))).length ≤ 10 * zs.length
  | [] => Nat.le_refl _
  | z :: zs => by
    have h1 := drItems_len b h zs
    have h2 := (drItem_may b h z).2
    show (itemL (drItem b z) ++ itemsL (zs.map (drItem b))).length ≤ _
    rw [List.length_append, List.length_cons]
    omega
theorem drBody_size (d : Dr) : (drBody d).size ≤ 8 := by unfold drBody; rw [ByteArray.size_extract]; omega
theorem drItems_may (d : Dr) : (∀ x ∈ drItems d, mayI x) ∧ (itemsL (drItems d)).length ≤ 40 := by
  refine ⟨fun x hx => ?_, ?_⟩
  · unfold drItems at hx
    obtain ⟨z, _, rfl⟩ := List.mem_map.1 hx
    exact (drItem_may _ (drBody_size d) z).1
  · unfold drItems
    have := drItems_len (drBody d) (drBody_size d) (d.zs.take 4)
    have : (d.zs.take 4).length ≤ 4 := by rw [List.length_take]; omega
    omega
theorem layI_good (xs : List It) (h : ∀ x ∈ xs, mayI x) (hl : (itemsL xs).length ≤ 40) : layI xs = (⟨(padL (itemsL xs)).toArray⟩, 0) := by
  unfold layI
  rw [if_pos h, if_neg (by omega)]
theorem padL_size (l : List UInt8) (h : l.length ≤ 40) : (⟨(padL l).toArray⟩ : ByteArray).size ≤ 40 ∧ (⟨(padL l).toArray⟩ : ByteArray).size % 4 = 0 := by
  have e : (⟨(padL l).toArray⟩ : ByteArray).size = l.length + padN l.length := by rw [size_ba]; simp [padL]
  have hp : padN l.length = (4 - l.length % 4) % 4 := rfl
  omega
theorem drSeg_ok (d : Dr) {w : World} (h : d.Ok w) : (drSeg d).Ok ∧ (drSeg d).data.size ≤ 100 := by
  have hm := drItems_may d
  have hl := layI_good _ hm.1 hm.2
  have hp := padL_size _ hm.2
  have hs : (drSeg d).data.size ≤ 100 := by show (d.data.extract 0 (min d.data.size 100)).size ≤ 100; rw [ByteArray.size_extract]; omega
  refine ⟨⟨h.h0, h.h1, h.h3, h.h4, h.h2, ?_, ?_, by omega⟩, hs⟩
  · show (layI (drItems d)).1.size ≤ 40
    rw [hl]; exact hp.1
  · show (layI (drItems d)).1.size % 4 = 0
    rw [hl]; exact hp.2
end Go.Proofs.YtbbkinldfpphdaaGreatDoor
