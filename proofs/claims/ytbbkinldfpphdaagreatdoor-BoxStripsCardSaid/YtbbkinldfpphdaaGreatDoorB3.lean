/- box.only and the deed of box.Edit, walked. -/
import Derived.Test.YtbbkinldfpphdaaGreatDoorB2
import Derived.Test.YtbbkinldfpphdaaGreatDoorBy
import Derived.Test.YtbbkinldfpphdaaGreatDoorRh
import Derived.Deep.RegionLawGrows
import Derived.Deep.DrawnRows
import Derived.Deep.AppendLies
namespace Go.Proofs.YtbbkinldfpphdaaGreatDoor
open Go.RowKit Pl
attribute [local go_sem ↓] Go.wp_at_zero Go.wp_at_succ

theorem only_not (v : Value) (k : Nat) (w : World) (hk : k ≠ 0) :
    Calls Tryz.prog 23 #[v, .int .i64 k] w fun e w' => e = .returned (.tuple #[.string ⟨#[]⟩, .int .i64 k]) ∧ w = w' := by
  have h1 : ((k : Int) == 0) = false := by simp; omega
  have h2 : ((k : Int) != 0) = true := by simp; omega
  clear hk
  go_enter Tryz.func23, Tryz.ntmps23
  go_wp2
  go_ret2
  exact ⟨rfl, rfl⟩
theorem only_one (v : Value) (t : ByteArray) (w : World) (h : Strs w v [t]) :
    Calls Tryz.prog 23 #[v, .int .i64 0] w fun e w' => e = .returned (.tuple #[.string t, .int .i64 0]) ∧ w = w' := by
  obtain ⟨g, cap, rfl, hc⟩ := h
  have h0 := hc 0 t rfl
  clear hc
  simp only [List.length_cons, List.length_nil, Nat.zero_add]
  go_enter Tryz.func23, Tryz.ntmps23
  go_wp2
  go_ret2
  exact ⟨rfl, rfl⟩

/-- Data of which byte k is another one: by is added. -/
def editL (l : List UInt8) (k : Nat) (by_ : Int) : List UInt8 := l.take k ++ [UInt8.ofNat ((((l.getD k 0).toNat : Int) + by_) % 256).toNat] ++ l.drop (k + 1)
def editB (d : ByteArray) (k : Nat) (by_ : Int) : ByteArray := ⟨(editL d.data.toList k by_).toArray⟩
theorem editL_length (l : List UInt8) (k : Nat) (by_ : Int) (h : k < l.length) : (editL l k by_).length = l.length := by
  unfold editL; simp; omega
theorem editB_size (d : ByteArray) (k : Nat) (by_ : Int) (h : k < d.size) : (editB d k by_).size = d.size := by
  unfold editB; rw [size_ba, editL_length _ _ _ (by rw [bytes_len]; exact h), bytes_len]

set_option maxHeartbeats 1000000 in
theorem edit_bad (B : World) (p q : Nat) (at_ _by : Int) (x : Sg) (hp : At B p 3 [.int .i64 at_]) (hx : x.Ok) (h : at_ < 0 ∨ (x.data.size : Int) ≤ at_) :
    Does 34 #[.pointer (some ⟨p, 0, none⟩), .pointer (some ⟨q, 0, none⟩)] B x (GiveNot 2) := by
  intro W hBW
  have hpW := hp.kept hBW
  have hc := hpW.cell 0
  have hl := hpW.lt
  simp only [List.getElem?_cons_zero] at hc
  obtain ⟨src, dst, seq, ack, syn, ackOn, fin, rst, win, area, data⟩ := x
  clear hp hpW hBW
  unfold Sg.v
  simp only [List.append_toArray, List.cons_append, List.nil_append]
  have h7 := hx.h7
  clear hx
  simp only at h h7
  by_cases h1 : at_ < 0
  · have e1 : decide (at_ < 0) = true := by simp; omega
    go_enter Tryz.func34, Tryz.ntmps34
    go_wp2
    go_ret2
    exact ⟨rfl, (Below.refl _ _).alloc (Nat.le_refl _) _⟩
  · have e1 : decide (at_ < 0) = false := by simp; omega
    have e2 : decide ((data.size : Int) ≤ at_) = true := by simp; omega
    go_enter Tryz.func34, Tryz.ntmps34
    go_wp2
    go_ret2
    exact ⟨rfl, (Below.refl _ _).alloc (Nat.le_refl _) _⟩

theorem edit_cells (l : List UInt8) (z : Int) (h0 : 0 ≤ z) (h1 : z < 256) : cellsOf l ++ [Value.int .u8 z] = cellsOf (l ++ [UInt8.ofNat z.toNat]) := by
  unfold cellsOf
  rw [List.map_append, List.map_cons, List.map_nil, UInt8.toNat_ofNat', Nat.mod_eq_of_lt (by omega)]
  congr 2
  rw [Int.toNat_of_nonneg h0]
set_option maxRecDepth 20000 in
set_option maxHeartbeats 4000000 in
theorem edit_good (B : World) (p q : Nat) (k : Nat) (by_ : Int) (x : Sg) (hp : At B p 3 [.int .i64 k]) (hq : At B q 3 [.int .i64 by_]) (hx : x.Ok) (h : k < x.data.size) :
    Does 34 #[.pointer (some ⟨p, 0, none⟩), .pointer (some ⟨q, 0, none⟩)] B x (GiveOne { x with data := editB x.data k by_ }) := by
  intro W hBW
  have hpW := hp.kept hBW
  have hqW := hq.kept hBW
  obtain ⟨src, dst, seq, ack, syn, ackOn, fin, rst, win, area, data⟩ := x
  clear hp hq hBW
  unfold Sg.v
  simp only [List.append_toArray, List.cons_append, List.nil_append]
  have h7 := hx.h7
  clear hx
  simp only at h h7
  obtain ⟨d', hd'⟩ : ∃ d', editB data k by_ = d' := ⟨_, rfl⟩
  rw [hd']
  have HD := Lib.hid hd'
  clear hd'
  have e1 : decide ((k : Int) < 0) = false := by simp
  have e2 : decide ((data.size : Int) ≤ (k : Int)) = false := by simp; omega
  obtain ⟨W1, hW1⟩ : ∃ W1, W.alloc (.cells #[.int .i64 0, .int .u16 src, .int .u16 dst, .int .u32 seq, .int .u32 ack, .bool syn, .bool ackOn, .bool fin, .bool rst, .int .u16 win, .string area, .string data] 29) = W1 := ⟨_, rfl⟩
  have hX1 : At W1 W.heap.size 29 [.int .i64 0, .int .u16 src, .int .u16 dst, .int .u32 seq, .int .u32 ack, .bool syn, .bool ackOn, .bool fin, .bool rst, .int .u16 win, .string area, .string data] := by rw [← hW1]; exact At.of_new _ _ _
  have hB1 : Below W.heap.size W W1 := by rw [← hW1]; exact (Below.refl _ _).alloc (Nat.le_refl _) _
  have hp1 := hpW.kept hB1
  have hq1 := hqW.kept hB1
  obtain ⟨c, V, hV, hBf, hbV, hsz, hcap⟩ := bytes_conv' W1 data
  have c1 := hp1.cell 0
  have c2 := hX1.cell 11
  simp only [List.getElem?_cons_zero, List.getElem?_cons_succ] at c1 c2
  go_enter Tryz.func34, Tryz.ntmps34
  have hlV : W1.heap.size < V.heap.size := by omega
  have hVp := (hp1.kept hbV).cell 0
  have hVq := (hq1.kept hbV).cell 0
  have hVx := (hX1.kept hbV).cell 11
  have hVk := hBf.cell k (by rw [bytes_len]; exact h)
  have hVf : V.frozen? ⟨W.heap.size, 11, none⟩ = false := (hX1.kept hbV).frozen 11
  have hlp := (hp1.kept hbV).lt
  have hlq := (hq1.kept hbV).lt
  have hlx := (hX1.kept hbV).lt
  simp only [List.getElem?_cons_zero, List.getElem?_cons_succ] at hVp hVq hVx
  have hXW : W.heap.size < V.heap.size := hlx
  have hXB : ∀ w', Below V.heap.size V w' → w'.cell? ⟨W.heap.size, 11, none⟩ = some (.string data) ∧ w'.frozen? ⟨W.heap.size, 11, none⟩ = false := fun w' hb => ⟨(World.cell?_of_block (hb.block W.heap.size hXW)).trans hVx, (World.frozen?_of_block (hb.block W.heap.size hXW)).trans hVf⟩
  have mkS : ∀ w' : World, Below V.heap.size V w' → w'.cell? ⟨p, 0, none⟩ = some (.int .i64 k) ∧ w'.cell? ⟨q, 0, none⟩ = some (.int .i64 by_) ∧ w'.cell? ⟨W1.heap.size, k, none⟩ = some (.int .u8 ((data.data.toList.getD k 0).toNat : Nat)) ∧ w'.cell? ⟨W.heap.size, 11, none⟩ = some (.string data) :=
    fun w' hb => ⟨(World.cell?_of_block (hb.block p hlp)).trans hVp, (World.cell?_of_block (hb.block q hlq)).trans hVq, (World.cell?_of_block (hb.block W1.heap.size hlV)).trans hVk, (hXB w' hb).1⟩
  have MK := Lib.hid mkS
  have MX := Lib.hid hXB
  have HBf := Lib.hid hBf
  have HX := Lib.hid (hX1.kept hbV)
  have HB := Lib.hid (hB1.trans (hbV.mono hB1.size))
  have i0 : (0 : Int) ≤ (k : Int) := by omega
  have i1 : (k : Int) ≤ (c : Int) := by omega
  have i2 : (k : Int) < (data.size : Int) := by omega
  have i3 : IntKind.i64.wrap ((k : Int) + 1) = (k : Int) + 1 := IntWalk.i64_in _ (by omega)
  have i4 : (k : Int) + 1 ≤ (data.size : Int) := by omega
  have i5 : (0 : Int) ≤ (k : Int) + 1 := by omega
  have i6 : ((k : Int) + 1).toNat = k + 1 := by omega
  obtain ⟨j0, hi, hz0, hz1, hz2⟩ := info_parts info_u8
  have hkl : k < data.data.toList.length := by rw [bytes_len]; exact h
  have hold : ∀ w' : World, Below V.heap.size V w' → ∀ b, some (⟨W1.heap.size, 0, none⟩ : Addr) = some b → ∀ j u, (cellsOf (data.data.toList.take k))[j]? = some u → w'.cell? (b.add j) = some u := by
    intro w' hb b hbb j u hu
    obtain rfl := Option.some.inj hbb
    have hj : j < k := by
      have := (List.getElem?_eq_some_iff.1 hu).1
      simp [cellsOf] at this; omega
    have e : (⟨W1.heap.size, 0, none⟩ : Addr).add j = ⟨W1.heap.size, j, none⟩ := by unfold Addr.add; split <;> simp_all
    rw [e, (hb.cell (p := ⟨W1.heap.size, j, none⟩) hlV).trans (HBf.out.cell j (by omega)), ← hu]
    rw [cellsOf, List.getElem?_map, List.getElem?_take, if_pos hj, List.getElem?_eq_getElem (by omega), List.getD_eq_getElem?_getD, List.getElem?_eq_getElem (by omega)]
    rfl
  have HH := Lib.hid hold
  obtain ⟨zb, hzb⟩ : ∃ z, IntKind.u8.wrap (((data.data[k]'(by simpa using hkl)).toNat : Int) + IntKind.u8.wrap by_) = z := ⟨_, rfl⟩
  go_upto_region 4 with fail
  have hz3 : 0 ≤ zb := by rw [← hzb, IntKind.wrap_u8]; omega
  have hz4 : zb < 256 := by rw [← hzb, IntKind.wrap_u8]; omega
  obtain ⟨t, ht⟩ : ∃ t : ByteArray, (⟨(data.data.toList.take k ++ [UInt8.ofNat zb.toNat]).toArray⟩ : ByteArray) = t := ⟨_, rfl⟩
  have hts : t.size = k + 1 := by rw [← ht, size_ba]; simp; omega
  obtain ⟨r, hr⟩ : ∃ r, data.extract (k + 1) data.size = r := ⟨_, rfl⟩
  have hrs : r.size ≤ 1024 := by rw [← hr, ByteArray.size_extract]; omega
  have hts2 : t.size ≤ 1024 := by omega
  have hcat : ¬ 9223372036854775807 < t.size + r.size := by omega
  have HT := Lib.hid ht
  have HS := Lib.hid hts
  have HRR : Hid (t ++ r = d') := by
    show _ = _
    rw [← HD.out, ← ht, ← hr]
    apply ba_ext
    have e2 : cutL data.data.toList (k + 1) data.size = data.data.toList.drop (k + 1) := by unfold cutL; rw [List.take_of_length_le (by rw [bytes_len]; exact Nat.le_refl _)]
    rw [ByteArray.data_append, Array.toList_append, cut_data, e2]
    unfold editB editL
    rw [List.getD_eq_getElem?_getD, List.getElem?_eq_getElem hkl, Option.getD_some, Array.getElem_toList, ← hzb]
    simp only [IntKind.wrap_u8, List.append_assoc]
    have e3 : ((((data.data[k]'(by simpa using hkl)).toNat : Int) + by_ % 256) % 256) = ((((data.data[k]'(by simpa using hkl)).toNat : Int) + by_) % 256) := by omega
    rw [e3]
  clear hts hsz hold mkS hXB hVf hBf hp1 hq1 hX1 hB1 hW1 hV hVp hVq hVx hVk hbV hpW hqW
  refine wp_region_order 21 [(0, true), (1, true), (2, true), (3, true), (4, true), (5, true), (6, true), (7, true), (8, true), (9, true), (10, true), (14, true), (15, true), (16, true), (17, true), (18, true), (11, false), (12, false), (13, false), (19, true), (20, true), (21, false)] (Below V.heap.size V) (by kernel_rfl) (by kernel_rfl) (by kernel_rfl) rfl (by kernel_rfl) (fun _ _ _ _ _ h => h) ((Below.refl _ V).drew) ?_
  iterate 16
    refine walkG_val (v := ?_) rfl (by rfl) (fun w' hS => ?_) ?_
    rotate_left
    · obtain ⟨s1, s2, s3, s4⟩ := MK.out w' hS
      clear hS
      go_simp
      exact rfl
    simp only [Act.put, List.setIfInBounds_toArray, List.set_cons_zero, List.set_cons_succ]
  refine walkG_do rfl (by rfl) ?_
  go_simp
  refine ⟨((Below.refl _ V).alloc (Nat.le_refl _) _).drew, ?_⟩
  refine walkG_do rfl (by rfl) (of_step (by rfl) (step_append_grows (ops := #[]) rfl _ _ _ rfl 5 j0 (.int .u8 0) 1 1 Tryz.underlying24 hi hz0 hz1 hz2 rfl (by omega) (some ⟨W1.heap.size, 0, none⟩) k k (cellsOf (data.data.toList.take k)) rfl (fun h => by cases h) (by simp [cellsOf]; omega)
        (HH.out _ (((Below.refl _ V).alloc (Nat.le_refl _) _).drew)) ⟨V.heap.size, 0, none⟩ 1 1 [.int .u8 zb] rfl rfl (World.news_of_block (cs := #[.int .u8 zb]) (t := 5) (fr := (0, 0)) (heap_alloc_new V _)) (by simp [Value.oneCell']) (by omega) (by simp [maxLen]; omega) (by omega) ?_))
  intro v' w1 hown' hgrow
  rw [edit_cells _ _ hz3 hz4] at hown'
  have hcv := own_conv hown'
  rw [ht] at hcv
  have hb1 : Below V.heap.size V w1 := (((Below.refl _ V).alloc (Nat.le_refl _) _).drew).grown hgrow (by simp) (fun k hk => by cases hk)
  refine ⟨fun _ => hb1, ?_⟩
  simp only [Act.put, List.setIfInBounds_toArray, List.set_cons_zero, List.set_cons_succ]
  obtain ⟨x1, x2⟩ := MX.out w1 hb1
  have HV := Lib.hid hb1
  refine walkG_do rfl (by rfl) ?_
  clear hb1
  go_simp
  refine ⟨HV.out, ?_⟩
  iterate 2
    refine walkG_val (v := ?_) rfl (by rfl) (fun w' hS => ?_) ?_
    rotate_left
    · clear hS
      go_simp
      exact rfl
    simp only [Act.put, List.setIfInBounds_toArray, List.set_cons_zero, List.set_cons_succ]
  refine walkG_do rfl (by rfl) ?_
  go_simp
  simp only [walkG]
  have hA := (HX.out.kept HV.out).set_ 11 (.string (t ++ r))
  rw [HRR.out] at hA ⊢
  simp only [List.set_cons_succ, List.set_cons_zero] at hA
  have HB2 := HB.out.trans (HV.out.mono HB.out.size)
  have HB3 := HB2.setCell (p := ⟨W.heap.size, 11, none⟩) (Nat.le_refl _) (.string d')
  obtain ⟨W5, hW5⟩ : ∃ W5, w1.setCell ⟨W.heap.size, 11, none⟩ (.string d') = W5 := ⟨_, rfl⟩
  rw [hW5] at hA HB3 ⊢
  obtain ⟨f, d0, d1, d2, d3, d4, d5, d6, d7, d8, d9, d10, d11⟩ := hA.cells12
  have HB4 := Lib.hid HB3
  clear hA HB3 HB2 hW5 HV HX HB MK MX HBf HH hcv hown' hgrow x1 x2
  go_wp2
  go_ret2
  exact ⟨_, rfl, At.of_new _ _ _, HB4.out.alloc HB4.out.size _⟩
end Go.Proofs.YtbbkinldfpphdaaGreatDoor
