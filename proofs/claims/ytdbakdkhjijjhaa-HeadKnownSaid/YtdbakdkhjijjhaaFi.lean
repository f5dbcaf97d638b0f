/- The filled segment, walked. -/
import Derived.Test.YtdbakdkhjijjhaaRq
import Derived.Test.YtdbakdkhjijjhaaPg
import Derived.Test.YtdbakdkhjijjhaaMk
namespace Go.Proofs.Ytdbakdkhjijjhaa
open Go.RowKit Pl

/-- Where the call stands. -/
def Sf (w W : World) (sa sd sl : Nat) (cs : List Value) (ga gd : Nat) (la ld : List UInt8) : Prop :=
  At W w.heap.size 27 [.int .u8 sa, .int .u16 sd, .int .u8 sl] ∧ At W (w.heap.size + 1) 25 cs ∧ At W (w.heap.size + 2) 25 zeroC ∧ At W ga 5 (cellsOf la) ∧ At W gd 5 (cellsOf ld) ∧ Below w.heap.size w W
/-- The first k of n places filled. -/
def fillL (n : Nat) (f : Nat → UInt8) (k : Nat) : List UInt8 := (List.range n).map fun i => if i < k then f i else 0
theorem fillL_zero (n : Nat) (f : Nat → UInt8) : fillL n f 0 = List.replicate n 0 := by
  apply List.ext_getElem?
  intro i
  by_cases h : i < n <;> simp [fillL, h]
theorem fillL_set (n : Nat) (f : Nat → UInt8) (k : Nat) (h : k < n) : (fillL n f k).set k (f k) = fillL n f (k + 1) := by
  apply List.ext_getElem?
  intro i
  rw [List.getElem?_set]
  by_cases e : k = i
  · subst e
    simp [fillL, h]
  · by_cases h2 : i < n
    · have : (i < k + 1) = (i < k) := by simp; omega
      simp [fillL, h2, e, this]
    · simp [fillL, h2, e]
def fA (sl : Nat) (i : Nat) : UInt8 := UInt8.ofNat ((sl + i) % 256)
def fD (sl : Nat) (i : Nat) : UInt8 := UInt8.ofNat (sl ^^^ (7 * i % 256))
def fillA (sa sl : Nat) : ByteArray := ⟨(fillL (4 * (sa % 12)) (fA sl) (4 * (sa % 12))).toArray⟩
def fillD (sd sl : Nat) : ByteArray := ⟨(fillL (sd % 1100) (fD sl) (sd % 1100)).toArray⟩
theorem fillA_size (sa sl : Nat) : (fillA sa sl).size = 4 * (sa % 12) := by simp [fillA, ByteArray.size, fillL]
theorem fillD_size (sd sl : Nat) : (fillD sd sl).size = sd % 1100 := by simp [fillD, ByteArray.size, fillL]
theorem cellsOf_set (l : List UInt8) (k : Nat) (z : Int) (h0 : 0 ≤ z) (h1 : z < 256) : (cellsOf l).set k (.int .u8 z) = cellsOf (l.set k (UInt8.ofNat z.toNat)) := by
  unfold cellsOf
  rw [List.map_set]
  congr 2
  rw [UInt8.toNat_ofNat', Nat.mod_eq_of_lt (by omega)]
  omega
theorem Sf.setA {w W : World} {sa sd sl : Nat} {cs : List Value} {ga gd : Nat} {la ld : List UInt8} (h : Sf w W sa sd sl cs ga gd la ld) (hg : w.heap.size + 2 < ga) (hne : gd ≠ ga) (k : Nat) (z : Int) (h0 : 0 ≤ z) (h1 : z < 256) :
    Hid (Sf w (W.setCell ⟨ga, k, none⟩ (.int .u8 z)) sa sd sl cs ga gd (la.set k (UInt8.ofNat z.toNat)) ld) :=
  ⟨h.1.far (by show _ ≠ ga; omega) _, h.2.1.far (by show _ ≠ ga; omega) _, h.2.2.1.far (by show _ ≠ ga; omega) _, by rw [← cellsOf_set la k z h0 h1]; exact h.2.2.2.1.set_ k _, h.2.2.2.2.1.far (by show _ ≠ ga; omega) _, h.2.2.2.2.2.setCell (p := ⟨ga, k, none⟩) (by show _ ≤ ga; omega) _⟩
theorem Sf.setD {w W : World} {sa sd sl : Nat} {cs : List Value} {ga gd : Nat} {la ld : List UInt8} (h : Sf w W sa sd sl cs ga gd la ld) (hg : w.heap.size + 2 < gd) (hne : ga ≠ gd) (k : Nat) (z : Int) (h0 : 0 ≤ z) (h1 : z < 256) :
    Hid (Sf w (W.setCell ⟨gd, k, none⟩ (.int .u8 z)) sa sd sl cs ga gd la (ld.set k (UInt8.ofNat z.toNat))) :=
  ⟨h.1.far (by show _ ≠ gd; omega) _, h.2.1.far (by show _ ≠ gd; omega) _, h.2.2.1.far (by show _ ≠ gd; omega) _, h.2.2.2.1.far (by show _ ≠ gd; omega) _, by rw [← cellsOf_set ld k z h0 h1]; exact h.2.2.2.2.1.set_ k _, h.2.2.2.2.2.setCell (p := ⟨gd, k, none⟩) (by show _ ≤ gd; omega) _⟩
theorem xor_u8 (a b : Nat) (ha : a < 256) : ∃ z : Nat, bits .xor .u8 (a : Int) (7 * (b : Int) % 256) = (z : Int) ∧ z < 256 ∧ z = a ^^^ (7 * b % 256) :=
  ⟨a ^^^ (7 * b % 256), by rw [show (7 * (b : Int) % 256) = ((7 * b % 256 : Nat) : Int) by omega]; exact u8_xor_nat a (7 * b % 256) ha (by omega), Nat.xor_lt_two_pow (n := 8) ha (by omega), rfl⟩

theorem At.new1 {w : World} {g g' : Nat} {t : TypeId} {cs : List Value} (h : At w g t cs) (e : g = g') : At w g' t cs := by subst e; exact h

set_option maxHeartbeats 4000000 in
theorem filled_any (sa sd sl : Nat) (path : Int) (src dst seq ack : Nat) (syn ackOn fin rst : Bool) (win : Nat) (area data : ByteArray) (w : World)
    (h0 : sa < 256) (h1 : sd < 65536) (h2 : sl < 256) :
    Calls Try.prog 8 #[.agg #[.int .u8 sa, .int .u16 sd, .int .u8 sl], .agg (segC path src dst seq ack syn ackOn fin rst win area data).toArray] w fun e w' =>
      e = .returned (.agg (segC path src dst seq ack syn ackOn fin rst win (fillA sa sl) (fillD sd sl)).toArray) ∧ Below w.heap.size w w' := by
  unfold fillA fillD
  obtain ⟨na, ena⟩ : ∃ n, sa % 12 = n := ⟨_, rfl⟩
  obtain ⟨nd, en⟩ : ∃ n, sd % 1100 = n := ⟨_, rfl⟩
  obtain ⟨n4, en4⟩ : ∃ n, 4 * na = n := ⟨_, rfl⟩
  have r0 : (sa : Int).tmod 12 = (na : Int) := by rw [Int.tmod_eq_emod_of_nonneg (by omega)]; omega
  have r0' : (sa : Int) % 12 = (na : Int) := by omega
  have r1 : IntKind.i64.wrap (na : Int) = (na : Int) := IntWalk.i64_in _ (by omega)
  have r2 : IntKind.i64.wrap (4 * (na : Int)) = (n4 : Int) := by rw [← en4]; exact IntWalk.i64_in _ (by omega)
  have r3 : IntKind.i64.wrap (sd : Int) = (sd : Int) := IntWalk.i64_in _ (by omega)
  have r4 : (sd : Int).tmod 1100 = (nd : Int) := by rw [Int.tmod_eq_emod_of_nonneg (by omega)]; omega
  have r4' : (sd : Int) % 1100 = (nd : Int) := by omega
  have hn4 : n4 ≤ 44 := by omega
  have hnd : nd ≤ 1099 := by omega
  rw [ena, en4, en]
  clear ena en4 en h0 h1
  unfold segC
  go_enter Try.func8, Try.ntmps8
  go_upto_region 1 with fail
  obtain ⟨W, hW⟩ : ∃ W, ((w.alloc (.cells #[.int .u8 sa, .int .u16 sd, .int .u8 sl] 27)).alloc (.cells #[.int .i64 path, .int .u16 src, .int .u16 dst, .int .u32 seq, .int .u32 ack, .bool syn, .bool ackOn, .bool fin, .bool rst, .int .u16 win, .string area, .string data] 25)).alloc (.cells #[.int .i64 0, .int .u16 0, .int .u16 0, .int .u32 0, .int .u32 0, .bool false, .bool false, .bool false, .bool false, .int .u16 0, .string ⟨#[]⟩, .string ⟨#[]⟩] 25) = W := ⟨_, rfl⟩
  have hS : At W w.heap.size 27 [.int .u8 sa, .int .u16 sd, .int .u8 sl] ∧ At W (w.heap.size + 1) 25 (segC path src dst seq ack syn ackOn fin rst win area data) ∧ At W (w.heap.size + 2) 25 zeroC ∧ Below w.heap.size w W ∧ W.heap.size = w.heap.size + 3 := by
    rw [← hW]
    exact ⟨((At.of_new w _ _).alloc _).alloc _, (At.new1 (At.of_new _ _ _) (by simp)).alloc _, At.new1 (At.of_new _ _ _) (by simp), (((Below.refl _ w).alloc (Nat.le_refl _) _).alloc (by simp) _).alloc (by simp; omega) _, by simp⟩
  rw [hW]
  clear hW
  obtain ⟨hA, hX, hZ, hB, hz⟩ := hS
  have HX := Lib.hid hX
  have HZ := Lib.hid hZ
  have HB := Lib.hid hB
  have HA := Lib.hid hA
  have cA := hA.cell 0
  have cB := hA.cell 1
  simp only [List.getElem?_cons_zero, List.getElem?_cons_succ] at cA cB
  have hlt : w.heap.size < W.heap.size := by omega
  clear hX hZ hB hA
  have M0 : ∀ w, (Instr.makeSlice 45 (.int .i64 (n4 : Int)) (.int .i64 (n4 : Int))).run Try.prog w = .ok (.slice (some ⟨w.heap.size, 0, none⟩) n4 n4) (w.alloc (.cells (cellsOf (List.replicate n4 0)).toArray 5)) := fun w => make_u8 n4 (by omega) w
  have M1 : ∀ w, (Instr.makeSlice 45 (.int .i64 (nd : Int)) (.int .i64 (nd : Int))).run Try.prog w = .ok (.slice (some ⟨w.heap.size, 0, none⟩) nd nd) (w.alloc (.cells (cellsOf (List.replicate nd 0)).toArray 5)) := fun w => make_u8 nd (by omega) w
  go_region_held3 (fun w' => w'.cell? ⟨w.heap.size, 0, none⟩ = some (.int .u8 sa) ∧ w'.cell? ⟨w.heap.size, 1, none⟩ = some (.int .u16 sd)) (go_keep) (fail)
  · obtain ⟨g, hg⟩ : ∃ g, W.heap.size = g := ⟨_, rfl⟩
    have hg3 : w.heap.size + 3 = g := by omega
    have HS : Hid (Sf w (((W.alloc (.cells (cellsOf (List.replicate n4 0)).toArray 5)).alloc (.cells (cellsOf (List.replicate nd 0)).toArray 5)).drew) sa sd sl (segC path src dst seq ack syn ackOn fin rst win area data) (g) (g + 1) (List.replicate n4 0) (List.replicate nd 0)) :=
      ⟨(HA.out.alloc _).alloc _, (HX.out.alloc _).alloc _, (HZ.out.alloc _).alloc _, (At.new1 (At.new _ _ _) hg).alloc _, At.new1 (At.new _ _ _) (by simp; omega), ((HB.out.alloc HB.out.size _).alloc (by have := HB.out.size; simp; omega) _).drew⟩
    obtain ⟨V, hV⟩ : ∃ V, ((W.alloc (.cells (cellsOf (List.replicate n4 0)).toArray 5)).alloc (.cells (cellsOf (List.replicate nd 0)).toArray 5)).drew = V := ⟨_, rfl⟩
    rw [hg3]
    rw [hV] at HS ⊢
    have HG := Lib.hid hg3
    clear hV hg hg3 cA cB hlt HX HZ HB HA hz M0 M1 r0 r0' r1 r2 r3 r4 r4'
    go_wp2
    go_loopw [7] (fun i wr => ∃ (k : Nat) (la : List UInt8), k ≤ n4 ∧ i = .int .i64 k ∧ Hid (la.length = n4 ∧ la = fillL n4 (fA sl) k) ∧ Hid (Sf w wr sa sd sl (segC path src dst seq ack syn ackOn fin rst win area data) (g) (g + 1) la (List.replicate nd 0))) (fun i _ => n4 - (intOf i).toNat)
    case atStart => exact ⟨0, List.replicate n4 0, Nat.zero_le _, rfl, ⟨by simp, (fillL_zero _ _).symm⟩, HS⟩
    case round =>
      clear HS V
      obtain ⟨k, la, hk, rfl, HL, HS⟩ := hrel
      by_cases hlt : k < n4
      · have cL : wr.cell? ⟨w.heap.size, 2, none⟩ = some (.int .u8 sl) := HS.out.1.cell 2
        have cS : wr.cell? ⟨g, k, none⟩ = some (.int .u8 ((la[k]'(by rw [HL.out.1]; exact hlt)).toNat : Nat)) := by
          rw [HS.out.2.2.2.1.cell, cellsOf, List.getElem?_map, List.getElem?_eq_getElem]; rfl
        have cF : wr.frozen? ⟨g, k, none⟩ = false := HS.out.2.2.2.1.frozen k
        go_wp2
        refine ⟨⟨k + 1, _, by omega, int_eq (by omega), ?_, Sf.setA HS.out (by have := HG.out; omega) (by omega) k _ (by omega) (by omega)⟩, by simp [intOf]; omega⟩
        refine ⟨by rw [List.length_set]; exact HL.out.1, ?_⟩
        rw [HL.out.2, ← fillL_set n4 (fA sl) k hlt]
        congr 2
      · go_wp2
        go_loopw [8] (fun i wr => ∃ (k : Nat) (ld : List UInt8), k ≤ nd ∧ i = .int .i64 k ∧ Hid (ld.length = nd ∧ ld = fillL nd (fD sl) k) ∧ Hid (Sf w wr sa sd sl (segC path src dst seq ack syn ackOn fin rst win area data) (g) (g + 1) la ld)) (fun i _ => nd - (intOf i).toNat)
        case atStart => exact ⟨0, List.replicate nd 0, Nat.zero_le _, rfl, ⟨by simp, (fillL_zero _ _).symm⟩, HS⟩
        case round =>
          clear HS
          obtain ⟨k2, ld, hk2, rfl, HL2, HS⟩ := hrel
          by_cases hlt2 : k2 < nd
          · have cL : wr.cell? ⟨w.heap.size, 2, none⟩ = some (.int .u8 sl) := HS.out.1.cell 2
            have cS : wr.cell? ⟨g + 1, k2, none⟩ = some (.int .u8 ((ld[k2]'(by rw [HL2.out.1]; exact hlt2)).toNat : Nat)) := by
              rw [HS.out.2.2.2.2.1.cell, cellsOf, List.getElem?_map, List.getElem?_eq_getElem]; rfl
            have cF : wr.frozen? ⟨g + 1, k2, none⟩ = false := HS.out.2.2.2.2.1.frozen k2
            obtain ⟨z, hz, hz2, hz3⟩ := xor_u8 sl k2 h2
            go_wp2
            refine ⟨⟨k2 + 1, _, by omega, int_eq (by omega), ?_, Sf.setD HS.out (by have := HG.out; omega) (by omega) k2 _ (by omega) (by omega)⟩, by simp [intOf]; omega⟩
            refine ⟨by rw [List.length_set]; exact HL2.out.1, ?_⟩
            rw [HL2.out.2, ← fillL_set nd (fD sl) k2 hlt2]
            congr 2
          · have e10 : wr.cell? ⟨w.heap.size + 1, 10, none⟩ = some (.string area) := HS.out.2.1.cell 10
            have e11 : wr.cell? ⟨w.heap.size + 1, 11, none⟩ = some (.string data) := HS.out.2.1.cell 11
            have f10 : ∀ i, wr.frozen? ⟨w.heap.size + 1, i, none⟩ = false := HS.out.2.1.frozen
            obtain ⟨a', ha'⟩ : ∃ a : ByteArray, a = ⟨la.toArray⟩ := ⟨_, rfl⟩
            obtain ⟨d', hd'⟩ : ∃ a : ByteArray, a = ⟨ld.toArray⟩ := ⟨_, rfl⟩
            have HCA : ∀ W, At W (g) 5 (cellsOf la) → (convert 45 9 (.slice (some ⟨g, 0, none⟩) n4 n4)).run Try.prog W = .ok (.string a') W := fun W hA => by
              rw [ha', conv_str 45 9 5 Try.underlying45 Try.underlying5 Try.underlying9 W _ _ la 0 n4 n4 hA (by rw [HL.out.1]; omega), List.drop_zero, List.take_of_length_le (by rw [HL.out.1]; omega)]
            have HCD : ∀ W, At W (g + 1) 5 (cellsOf ld) → (convert 45 9 (.slice (some ⟨g + 1, 0, none⟩) nd nd)).run Try.prog W = .ok (.string d') W := fun W hA => by
              rw [hd', conv_str 45 9 5 Try.underlying45 Try.underlying5 Try.underlying9 W _ _ ld 0 nd nd hA (by rw [HL2.out.1]; omega), List.drop_zero, List.take_of_length_le (by rw [HL2.out.1]; omega)]
            have q1 := HCA wr.drew HS.out.2.2.2.1.drew
            have q2 := HCD wr.drew HS.out.2.2.2.2.1.drew
            have u1 := (HS.out.2.2.2.1.far (p := ⟨w.heap.size + 1, 10, none⟩) (by have := HG.out; simp; omega) (.string a'))
            have u2 := (HS.out.2.2.2.2.1.far (p := ⟨w.heap.size + 1, 10, none⟩) (by have := HG.out; simp; omega) (.string a'))
            have q3 := HCA ((wr.setCell ⟨w.heap.size + 1, 10, none⟩ (.string a')).drew) u1.drew
            have q4 := HCD ((wr.setCell ⟨w.heap.size + 1, 10, none⟩ (.string a')).drew) u2.drew
            have q5 := HCA (((wr.setCell ⟨w.heap.size + 1, 10, none⟩ (.string a')).setCell ⟨w.heap.size + 1, 11, none⟩ (.string d')).drew) (u1.far (by have := HG.out; simp; omega) _).drew
            have q6 := HCD (((wr.setCell ⟨w.heap.size + 1, 10, none⟩ (.string a')).setCell ⟨w.heap.size + 1, 11, none⟩ (.string d')).drew) (u2.far (by have := HG.out; simp; omega) _).drew
            have HQA := Lib.hid ha'
            have HQD := Lib.hid hd'
            clear HCA HCD ha' hd' u1 u2
            go_upto_region 10 with fail
            apply wp_one
            case h1 =>
              go_region_held3 (fun w' => (convert 45 9 (.slice (some ⟨g, 0, none⟩) n4 n4)).run Try.prog w' = .ok (.string a') w' ∧ (convert 45 9 (.slice (some ⟨g + 1, 0, none⟩) nd nd)).run Try.prog w' = .ok (.string d') w') (first | exact ⟨q1, q2⟩ | exact ⟨q3, q4⟩ | exact ⟨q5, q6⟩) (fail)
              all_goals exact ⟨rfl, rfl, rfl⟩
            clear q1 q2 q3 q4 q5 q6 e10 e11 f10
            have h5 : At (((wr.setCell ⟨w.heap.size + 1, 10, none⟩ (.string a')).setCell ⟨w.heap.size + 1, 11, none⟩ (.string d')).drew) (w.heap.size + 1) 25 (segC path src dst seq ack syn ackOn fin rst win a' d') := ((HS.out.2.1.set_ 10 (.string a')).set_ 11 (.string d')).drew
            have h6 : At (((wr.setCell ⟨w.heap.size + 1, 10, none⟩ (.string a')).setCell ⟨w.heap.size + 1, 11, none⟩ (.string d')).drew) (w.heap.size + 2) 25 zeroC := ((HS.out.2.2.1.far (by simp) _).far (by simp) _).drew
            have h7 : Below w.heap.size w (((wr.setCell ⟨w.heap.size + 1, 10, none⟩ (.string a')).setCell ⟨w.heap.size + 1, 11, none⟩ (.string d')).drew) := ((HS.out.2.2.2.2.2.setCell (p := ⟨w.heap.size + 1, 10, none⟩) (by show _ ≤ w.heap.size + 1; omega) _).setCell (p := ⟨w.heap.size + 1, 11, none⟩) (by show _ ≤ w.heap.size + 1; omega) _).drew
            obtain ⟨V5, hV5⟩ : ∃ V, (((wr.setCell ⟨w.heap.size + 1, 10, none⟩ (.string a')).setCell ⟨w.heap.size + 1, 11, none⟩ (.string d')).drew) = V := ⟨_, rfl⟩
            rw [hV5] at h5 h6 h7 ⊢
            have H5 := Lib.hid h5
            have H6 := Lib.hid h6
            have H7 := Lib.hid h7
            obtain ⟨f, d0, d1, d2, d3, d4, d5, d6, d7, d8, d9, d10, d11⟩ := h5.cells12
            obtain ⟨f', c0, c1, c2, c3, c4, c5, c6, c7, c8, c9, c10, c11⟩ := h6.cells12
            clear h5 h6 h7 hV5 HS
            go_wp2
            refine chain12 (motive := fun W => bodyPost _ _ _ _ _ W) H6.out ?_
            intro W2 hA2 hO2
            have hL := seg_loadVar hA2 (by rfl)
            have hk0 : k = n4 := by omega
            have hk1 : k2 = nd := by omega
            have hsa : a' = ⟨(fillL n4 (fA sl) n4).toArray⟩ := by rw [HQA.out, HL.out.2, hk0]
            have hsd : d' = ⟨(fillL nd (fD sl) nd).toArray⟩ := by rw [HQD.out, HL2.out.2, hk1]
            clear f d0 d1 d2 d3 d4 d5 d6 d7 d8 d9 d10 d11 f' c0 c1 c2 c3 c4 c5 c6 c7 c8 c9 c10 c11
            exact bodyPost_ret (v := .agg (segC path src dst seq ack syn ackOn fin rst win a' d').toArray) (by
              simp [segC, results, Try.results8, asAddr, hL]) rfl ⟨by rw [hsa, hsd]; rfl, below_only H7.out hO2 H7.out.size (by omega)⟩
  · obtain ⟨g, hg⟩ : ∃ g, W.heap.size = g := ⟨_, rfl⟩
    have hg3 : w.heap.size + 3 = g := by omega
    have HS : Hid (Sf w (((W.alloc (.cells (cellsOf (List.replicate nd 0)).toArray 5)).alloc (.cells (cellsOf (List.replicate n4 0)).toArray 5)).drew) sa sd sl (segC path src dst seq ack syn ackOn fin rst win area data) (g + 1) (g) (List.replicate n4 0) (List.replicate nd 0)) :=
      ⟨(HA.out.alloc _).alloc _, (HX.out.alloc _).alloc _, (HZ.out.alloc _).alloc _, At.new1 (At.new _ _ _) (by simp; omega), (At.new1 (At.new _ _ _) hg).alloc _, ((HB.out.alloc HB.out.size _).alloc (by have := HB.out.size; simp; omega) _).drew⟩
    obtain ⟨V, hV⟩ : ∃ V, ((W.alloc (.cells (cellsOf (List.replicate nd 0)).toArray 5)).alloc (.cells (cellsOf (List.replicate n4 0)).toArray 5)).drew = V := ⟨_, rfl⟩
    rw [hg3]
    rw [hV] at HS ⊢
    have HG := Lib.hid hg3
    clear hV hg hg3 cA cB hlt HX HZ HB HA hz M0 M1 r0 r0' r1 r2 r3 r4 r4'
    go_wp2
    go_loopw [7] (fun i wr => ∃ (k : Nat) (la : List UInt8), k ≤ n4 ∧ i = .int .i64 k ∧ Hid (la.length = n4 ∧ la = fillL n4 (fA sl) k) ∧ Hid (Sf w wr sa sd sl (segC path src dst seq ack syn ackOn fin rst win area data) (g + 1) (g) la (List.replicate nd 0))) (fun i _ => n4 - (intOf i).toNat)
    case atStart => exact ⟨0, List.replicate n4 0, Nat.zero_le _, rfl, ⟨by simp, (fillL_zero _ _).symm⟩, HS⟩
    case round =>
      clear HS V
      obtain ⟨k, la, hk, rfl, HL, HS⟩ := hrel
      by_cases hlt : k < n4
      · have cL : wr.cell? ⟨w.heap.size, 2, none⟩ = some (.int .u8 sl) := HS.out.1.cell 2
        have cS : wr.cell? ⟨g + 1, k, none⟩ = some (.int .u8 ((la[k]'(by rw [HL.out.1]; exact hlt)).toNat : Nat)) := by
          rw [HS.out.2.2.2.1.cell, cellsOf, List.getElem?_map, List.getElem?_eq_getElem]; rfl
        have cF : wr.frozen? ⟨g + 1, k, none⟩ = false := HS.out.2.2.2.1.frozen k
        go_wp2
        refine ⟨⟨k + 1, _, by omega, int_eq (by omega), ?_, Sf.setA HS.out (by have := HG.out; omega) (by omega) k _ (by omega) (by omega)⟩, by simp [intOf]; omega⟩
        refine ⟨by rw [List.length_set]; exact HL.out.1, ?_⟩
        rw [HL.out.2, ← fillL_set n4 (fA sl) k hlt]
        congr 2
      · go_wp2
        go_loopw [8] (fun i wr => ∃ (k : Nat) (ld : List UInt8), k ≤ nd ∧ i = .int .i64 k ∧ Hid (ld.length = nd ∧ ld = fillL nd (fD sl) k) ∧ Hid (Sf w wr sa sd sl (segC path src dst seq ack syn ackOn fin rst win area data) (g + 1) (g) la ld)) (fun i _ => nd - (intOf i).toNat)
        case atStart => exact ⟨0, List.replicate nd 0, Nat.zero_le _, rfl, ⟨by simp, (fillL_zero _ _).symm⟩, HS⟩
        case round =>
          clear HS
          obtain ⟨k2, ld, hk2, rfl, HL2, HS⟩ := hrel
          by_cases hlt2 : k2 < nd
          · have cL : wr.cell? ⟨w.heap.size, 2, none⟩ = some (.int .u8 sl) := HS.out.1.cell 2
            have cS : wr.cell? ⟨g, k2, none⟩ = some (.int .u8 ((ld[k2]'(by rw [HL2.out.1]; exact hlt2)).toNat : Nat)) := by
              rw [HS.out.2.2.2.2.1.cell, cellsOf, List.getElem?_map, List.getElem?_eq_getElem]; rfl
            have cF : wr.frozen? ⟨g, k2, none⟩ = false := HS.out.2.2.2.2.1.frozen k2
            obtain ⟨z, hz, hz2, hz3⟩ := xor_u8 sl k2 h2
            go_wp2
            refine ⟨⟨k2 + 1, _, by omega, int_eq (by omega), ?_, Sf.setD HS.out (by have := HG.out; omega) (by omega) k2 _ (by omega) (by omega)⟩, by simp [intOf]; omega⟩
            refine ⟨by rw [List.length_set]; exact HL2.out.1, ?_⟩
            rw [HL2.out.2, ← fillL_set nd (fD sl) k2 hlt2]
            congr 2
          · have e10 : wr.cell? ⟨w.heap.size + 1, 10, none⟩ = some (.string area) := HS.out.2.1.cell 10
            have e11 : wr.cell? ⟨w.heap.size + 1, 11, none⟩ = some (.string data) := HS.out.2.1.cell 11
            have f10 : ∀ i, wr.frozen? ⟨w.heap.size + 1, i, none⟩ = false := HS.out.2.1.frozen
            obtain ⟨a', ha'⟩ : ∃ a : ByteArray, a = ⟨la.toArray⟩ := ⟨_, rfl⟩
            obtain ⟨d', hd'⟩ : ∃ a : ByteArray, a = ⟨ld.toArray⟩ := ⟨_, rfl⟩
            have HCA : ∀ W, At W (g + 1) 5 (cellsOf la) → (convert 45 9 (.slice (some ⟨g + 1, 0, none⟩) n4 n4)).run Try.prog W = .ok (.string a') W := fun W hA => by
              rw [ha', conv_str 45 9 5 Try.underlying45 Try.underlying5 Try.underlying9 W _ _ la 0 n4 n4 hA (by rw [HL.out.1]; omega), List.drop_zero, List.take_of_length_le (by rw [HL.out.1]; omega)]
            have HCD : ∀ W, At W (g) 5 (cellsOf ld) → (convert 45 9 (.slice (some ⟨g, 0, none⟩) nd nd)).run Try.prog W = .ok (.string d') W := fun W hA => by
              rw [hd', conv_str 45 9 5 Try.underlying45 Try.underlying5 Try.underlying9 W _ _ ld 0 nd nd hA (by rw [HL2.out.1]; omega), List.drop_zero, List.take_of_length_le (by rw [HL2.out.1]; omega)]
            have q1 := HCA wr.drew HS.out.2.2.2.1.drew
            have q2 := HCD wr.drew HS.out.2.2.2.2.1.drew
            have u1 := (HS.out.2.2.2.1.far (p := ⟨w.heap.size + 1, 10, none⟩) (by have := HG.out; simp; omega) (.string a'))
            have u2 := (HS.out.2.2.2.2.1.far (p := ⟨w.heap.size + 1, 10, none⟩) (by have := HG.out; simp; omega) (.string a'))
            have q3 := HCA ((wr.setCell ⟨w.heap.size + 1, 10, none⟩ (.string a')).drew) u1.drew
            have q4 := HCD ((wr.setCell ⟨w.heap.size + 1, 10, none⟩ (.string a')).drew) u2.drew
            have q5 := HCA (((wr.setCell ⟨w.heap.size + 1, 10, none⟩ (.string a')).setCell ⟨w.heap.size + 1, 11, none⟩ (.string d')).drew) (u1.far (by have := HG.out; simp; omega) _).drew
            have q6 := HCD (((wr.setCell ⟨w.heap.size + 1, 10, none⟩ (.string a')).setCell ⟨w.heap.size + 1, 11, none⟩ (.string d')).drew) (u2.far (by have := HG.out; simp; omega) _).drew
            have HQA := Lib.hid ha'
            have HQD := Lib.hid hd'
            clear HCA HCD ha' hd' u1 u2
            go_upto_region 10 with fail
            apply wp_one
            case h1 =>
              go_region_held3 (fun w' => (convert 45 9 (.slice (some ⟨g + 1, 0, none⟩) n4 n4)).run Try.prog w' = .ok (.string a') w' ∧ (convert 45 9 (.slice (some ⟨g, 0, none⟩) nd nd)).run Try.prog w' = .ok (.string d') w') (first | exact ⟨q1, q2⟩ | exact ⟨q3, q4⟩ | exact ⟨q5, q6⟩) (fail)
              all_goals exact ⟨rfl, rfl, rfl⟩
            clear q1 q2 q3 q4 q5 q6 e10 e11 f10
            have h5 : At (((wr.setCell ⟨w.heap.size + 1, 10, none⟩ (.string a')).setCell ⟨w.heap.size + 1, 11, none⟩ (.string d')).drew) (w.heap.size + 1) 25 (segC path src dst seq ack syn ackOn fin rst win a' d') := ((HS.out.2.1.set_ 10 (.string a')).set_ 11 (.string d')).drew
            have h6 : At (((wr.setCell ⟨w.heap.size + 1, 10, none⟩ (.string a')).setCell ⟨w.heap.size + 1, 11, none⟩ (.string d')).drew) (w.heap.size + 2) 25 zeroC := ((HS.out.2.2.1.far (by simp) _).far (by simp) _).drew
            have h7 : Below w.heap.size w (((wr.setCell ⟨w.heap.size + 1, 10, none⟩ (.string a')).setCell ⟨w.heap.size + 1, 11, none⟩ (.string d')).drew) := ((HS.out.2.2.2.2.2.setCell (p := ⟨w.heap.size + 1, 10, none⟩) (by show _ ≤ w.heap.size + 1; omega) _).setCell (p := ⟨w.heap.size + 1, 11, none⟩) (by show _ ≤ w.heap.size + 1; omega) _).drew
            obtain ⟨V5, hV5⟩ : ∃ V, (((wr.setCell ⟨w.heap.size + 1, 10, none⟩ (.string a')).setCell ⟨w.heap.size + 1, 11, none⟩ (.string d')).drew) = V := ⟨_, rfl⟩
            rw [hV5] at h5 h6 h7 ⊢
            have H5 := Lib.hid h5
            have H6 := Lib.hid h6
            have H7 := Lib.hid h7
            obtain ⟨f, d0, d1, d2, d3, d4, d5, d6, d7, d8, d9, d10, d11⟩ := h5.cells12
            obtain ⟨f', c0, c1, c2, c3, c4, c5, c6, c7, c8, c9, c10, c11⟩ := h6.cells12
            clear h5 h6 h7 hV5 HS
            go_wp2
            refine chain12 (motive := fun W => bodyPost _ _ _ _ _ W) H6.out ?_
            intro W2 hA2 hO2
            have hL := seg_loadVar hA2 (by rfl)
            have hk0 : k = n4 := by omega
            have hk1 : k2 = nd := by omega
            have hsa : a' = ⟨(fillL n4 (fA sl) n4).toArray⟩ := by rw [HQA.out, HL.out.2, hk0]
            have hsd : d' = ⟨(fillL nd (fD sl) nd).toArray⟩ := by rw [HQD.out, HL2.out.2, hk1]
            clear f d0 d1 d2 d3 d4 d5 d6 d7 d8 d9 d10 d11 f' c0 c1 c2 c3 c4 c5 c6 c7 c8 c9 c10 c11
            exact bodyPost_ret (v := .agg (segC path src dst seq ack syn ackOn fin rst win a' d').toArray) (by
              simp [segC, results, Try.results8, asAddr, hL]) rfl ⟨by rw [hsa, hsd]; rfl, below_only H7.out hO2 H7.out.size (by omega)⟩
end Go.Proofs.Ytdbakdkhjijjhaa
