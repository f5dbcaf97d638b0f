/- The sum of parts: the iterator over their words, and the loop over it. -/
import Derived.Test.YtbbkinldfpphdaaGreatDoorRf
import Derived.Test.YtbbkinldfpphdaaGreatDoorSum
namespace Go.Proofs.YtbbkinldfpphdaaGreatDoor
open Go.RowKit Pl Go.Shelf
attribute [local go_sem] Oper.semAt_some

/-- take, where no byte waits. -/
theorem take_first (c : UInt8) (bw bh bY : Nat) (h0 : Int) (W : World) (hw : Boxed W bw 4 (.bool false)) (hh : Boxed W bh 22 (.int .u16 h0)) :
    CallsIn Fence.wide 0 Tryz.prog 46 #[.int .u8 c.toNat, .pointer (some ⟨bw, 0, none⟩), .pointer (some ⟨bh, 0, none⟩), .pointer (some ⟨bY, 0, none⟩)] W fun e W' =>
      e = .returned (.bool true) ∧ W' = (W.setCell ⟨bw, 0, none⟩ (.bool true)).setCell ⟨bh, 0, none⟩ (.int .u16 (c.toNat * 256 : Nat)) := by
  have hc1 := hw.cell
  have hf1 := hw.frozen
  have hc2 := hh.cell
  have hf2 := hh.frozen
  have hne : bh ≠ bw := fun e => by subst e; have := hw.symm.trans hh; simp at this
  have hb := c.toNat_lt
  clear hw hh
  refine callsIn_of_wp Tryz.func46 rfl trivial ?_ rfl
  simp only [Tryz.ntmps46, List.size_toArray, List.length_cons, List.length_nil, Nat.reduceAdd, Nat.reduceSub, Array.replicate_succ, Array.replicate_zero, List.push_toArray, List.append_toArray, List.nil_append, List.cons_append]
  gi_wp2
  go_ret
  exact ⟨rfl, by rw [Int.natCast_mul]; rfl⟩

/-- take, where a byte waits: it hands the word to yield. -/
theorem take_second (c d : UInt8) (bw bh bY l : Nat) (A B : World → Prop) (W : World) (hw : Boxed W bw 4 (.bool true)) (hh : Boxed W bh 22 (.int .u16 (c.toNat * 256 : Nat)))
    (hY : Boxed W bY 134 (.func (.yield l) #[] #[]))
    (hR : YieldAt Fence.wide 0 Tryz.prog l #[.int .u16 ((wd c d).val : Nat)] (W.setCell ⟨bw, 0, none⟩ (.bool false)) fun e W' => (e = .returned (.bool true) ∧ A W') ∨ (e = .returned (.bool false) ∧ B W')) :
    CallsIn Fence.wide 0 Tryz.prog 46 #[.int .u8 d.toNat, .pointer (some ⟨bw, 0, none⟩), .pointer (some ⟨bh, 0, none⟩), .pointer (some ⟨bY, 0, none⟩)] W fun e W' =>
      (e = .returned (.bool true) ∧ A W') ∨ (e = .returned (.bool false) ∧ B W') := by
  have hc1 := hw.cell
  have hf1 := hw.frozen
  have hne : bh ≠ bw := fun e => by subst e; have := hw.symm.trans hh; simp at this
  have hne2 : bY ≠ bw := fun e => by subst e; have := hw.symm.trans hY; simp at this
  have hc2 := (hh.kept (grownBy_setCell' W bw (.bool false)) (by simp [hne])).cell
  have hc3 := (hY.kept (grownBy_setCell' W bw (.bool false)) (by simp [hne2])).cell
  have hb := c.toNat_lt
  have hb2 := d.toNat_lt
  clear hw hh hY
  have ho : bits .or .u16 ((c.toNat : Int) * 256) (d.toNat : Int) = ((c.toNat * 256 + d.toNat : Nat) : Int) := by
    have := u16_or_nat (c.toNat * 256) d.toNat (by omega) (by omega)
    rw [nat_join 8 _ _ (by omega) (by omega)] at this
    simpa using this
  have hv : (((wd c d).val : Nat) : Int) = (c.toNat : Int) * 256 + (d.toNat : Int) := by simp [wd]
  rw [hv] at hR
  clear hv
  obtain ⟨fn, tmps, assign, body, hy, hR⟩ := hR
  refine callsIn_of_wp Tryz.func46 rfl trivial ?_ rfl
  simp only [Tryz.ntmps46, List.size_toArray, List.length_cons, List.length_nil, Nat.reduceAdd, Nat.reduceSub, Array.replicate_succ, Array.replicate_zero, List.push_toArray, List.append_toArray, List.nil_append, List.cons_append]
  gi_wp2
  refine ⟨rfl, ?_⟩
  refine hR.mono ?_
  rintro e W' (⟨rfl, hA⟩ | ⟨rfl, hB⟩)
  · gi_wp2
    go_ret
    exact .inl ⟨rfl, hA⟩
  · gi_wp2
    go_ret
    exact .inr ⟨rfl, hB⟩

def Sblk (pb px : Nat) (k : Nat) : Prop := k = pb ∨ k = px

/-- Where the iterator stands when the bytes p have come: its three variables lie from b on. -/
def Stt (b l pb px : Nat) (J : List (Fin 65536) → World → Prop) (W : World) (p : List UInt8) (w : World) : Prop :=
  Boxed w b 134 (.func (.yield l) #[] #[]) ∧ Held (Sblk pb px) W w ∧ b + 3 ≤ w.heap.size ∧
  ((p.length % 2 = 0 ∧ Boxed w (b + 2) 4 (.bool false) ∧ (∃ h, Boxed w (b + 1) 22 (.int .u16 h)) ∧ J (wordsF p) w) ∨
   (∃ q c, p = q ++ [c] ∧ q.length % 2 = 0 ∧ Boxed w (b + 2) 4 (.bool true) ∧ Boxed w (b + 1) 22 (.int .u16 (c.toNat * 256 : Nat)) ∧ J (wordsF q) w))

theorem boxed_abv {B b : Nat} {t : TypeId} {v : Value} {W W' : World} (h : Boxed W b t v) (ha : Abv B W W') (hb : B ≤ b) : Boxed W' b t v := (ha.same b hb h.lt).trans h

theorem take_any (b l pb px : Nat) (J Jx : List (Fin 65536) → World → Prop) (W : World) (hb : b = W.heap.size) (hJ : Low W.heap.size J) (hS : ∀ k, Sblk pb px k → k < W.heap.size) (p r : List UInt8) (d : UInt8)
    (hY : ∀ pre x W1, J pre W1 → pre.length < (wordsF (p ++ d :: r)).length → YieldAt Fence.wide 0 Tryz.prog l #[.int .u16 ((x : Fin 65536).val : Nat)] W1 fun e W' =>
      (e = .returned (.bool true) ∧ J (pre ++ [x]) W' ∧ Abv W.heap.size W1 W' ∧ Held (Sblk pb px) W1 W') ∨ (e = .returned (.bool false) ∧ Jx (pre ++ [x]) W' ∧ Abv W.heap.size W1 W' ∧ Held (Sblk pb px) W1 W'))
    (w : World) (h : Stt b l pb px J W p w) :
    CallsIn Fence.wide 0 Tryz.prog 46 #[.int .u8 d.toNat, .pointer (some ⟨b + 1 + 1, 0, none⟩), .pointer (some ⟨b + 1, 0, none⟩), .pointer (some ⟨b, 0, none⟩)] w fun e W' =>
      (e = .returned (.bool true) ∧ Stt b l pb px J W (p ++ [d]) W') ∨ (e = .returned (.bool false) ∧ ∃ pre, Jx pre W') := by
  subst hb
  obtain ⟨hy, hh, hz, ⟨hp, hw, ⟨h0, hf⟩, hj⟩ | ⟨q, c, rfl, hq, hw, hf, hj⟩⟩ := h
  · refine (take_first d _ _ W.heap.size h0 w hw hf).mono ?_
    rintro e W' ⟨rfl, rfl⟩
    refine .inl ⟨rfl, ?_, ?_, ?_, .inr ⟨p, d, rfl, hp, ?_, ?_, ?_⟩⟩
    · exact (hy.kept (grownBy_setCell' _ _ _) (by simp)).kept (grownBy_setCell' _ _ _) (by simp)
    · refine hh.trans fun k hk => ?_
      have := hS k hk
      rw [Below.heap_setCell _ _ _ _ (by simp; omega), Below.heap_setCell _ _ _ _ (by simp; omega)]
    · simp only [World.setCell, Array.size_modify]; exact hz
    · exact (hw.set _).kept (grownBy_setCell' _ _ _) (by simp)
    · exact (hf.kept (grownBy_setCell' _ _ _) (by simp)).set _
    · exact hJ _ _ _ hj (((Below.refl _ w).setCell (p := ⟨_, 0, none⟩) (by simp) _).setCell (p := ⟨_, 0, none⟩) (by simp) _)
  · have hj' : J (wordsF q) (w.setCell ⟨W.heap.size + 2, 0, none⟩ (.bool false)) := hJ _ _ _ hj ((Below.refl _ w).setCell (p := ⟨_, 0, none⟩) (by simp) _)
    have hlen : (wordsF q).length < (wordsF ((q ++ [c]) ++ d :: r)).length := by
      rw [wordsF_length, wordsF_length]; simp only [List.length_append, List.length_cons, List.length_nil]; omega
    refine take_second c d _ _ _ l _ _ w hw hf hy ?_
    refine YieldAt.mono (hY (wordsF q) (wd c d) _ hj' hlen) ?_
    rintro e W' (⟨rfl, h1, h2, h3⟩ | ⟨rfl, h1, h2, h3⟩)
    · refine .inl ⟨rfl, ?_, ?_, ?_, .inl ⟨?_, ?_, ⟨((c.toNat * 256 : Nat) : Int), ?_⟩, ?_⟩⟩
      · exact boxed_abv (hy.kept (grownBy_setCell' _ _ _) (by simp; try omega)) h2 (Nat.le_refl _)
      · refine (hh.trans fun k hk => ?_).trans h3
        have := hS k hk
        rw [Below.heap_setCell _ _ _ _ (by simp; omega)]
      · have := h2.size; simp only [World.setCell, Array.size_modify] at this; omega
      · simp; omega
      · exact boxed_abv (hw.set _) h2 (by omega)
      · exact boxed_abv (hf.kept (grownBy_setCell' _ _ _) (by simp)) h2 (by omega)
      · rw [show q ++ [c] ++ [d] = q ++ [c, d] by simp, wordsF_two q c d hq]; exact h1
    · exact .inr ⟨rfl, _, h1⟩

def flat (ss : List ByteArray) : List UInt8 := ss.flatMap fun s => s.data.toList
theorem flat_take (ss : List ByteArray) (k : Nat) (h : k < ss.length) : flat (ss.take (k + 1)) = flat (ss.take k) ++ ss[k].data.toList := by
  unfold flat
  rw [List.take_succ_eq_append_getElem h, List.flatMap_append]; simp
theorem bytes_take (s : ByteArray) (k : Nat) (h : k < s.size) : s.data.toList.take (k + 1) = s.data.toList.take k ++ [s[k]] := by
  rw [List.take_succ_eq_append_getElem (by simpa using h)]; rfl
theorem flat_split (ss : List ByteArray) (k : Nat) (h : k < ss.length) (j : Nat) (hj : j < ss[k].size) :
    flat ss = (flat (ss.take k) ++ ss[k].data.toList.take j) ++ ss[k][j] :: (ss[k].data.toList.drop (j + 1) ++ flat (ss.drop (k + 1))) := by
  have h1 : flat ss = flat (ss.take (k + 1)) ++ flat (ss.drop (k + 1)) := by
    unfold flat; rw [← List.flatMap_append, List.take_append_drop]
  have h2 : ss[k].data.toList = ss[k].data.toList.take (j + 1) ++ ss[k].data.toList.drop (j + 1) := (List.take_append_drop _ _).symm
  rw [h1, flat_take ss k h]
  conv => lhs; rw [h2]
  rw [bytes_take _ _ hj]
  simp

set_option maxHeartbeats 1000000 in
/-- The iterator over the words of parts. -/
theorem words_iter (px pb n cap : Nat) (t : TypeId) (ss : List ByteArray) (w : World) (hn : n = ss.length) (hpx : Boxed w px 70 (.slice (some ⟨pb, 0, none⟩) n cap))
    (hpb : At w pb t (ss.map Value.string)) (hsz : ∀ s ∈ ss, s.size ≤ 9223372036854775807) (hn2 : n ≤ 1000) :
    Iter Tryz.prog 45 #[.pointer (some ⟨px, 0, none⟩)] (fun x : Fin 65536 => #[Value.int .u16 (x.val : Nat)]) (Sblk pb px)
      (fun xs => xs = wordsF (flat ss)) (fun _ => True) (wordsF (flat ss)).length w := by
  intro l J Jx W hWs hWh hJ hJx hY h0
  have hpx1 : Boxed W px 70 (.slice (some ⟨pb, 0, none⟩) n cap) := (hWh px (.inr rfl)).trans hpx
  have hpb1 : At W pb t (ss.map Value.string) := (hWh pb (.inl rfl)).trans hpb
  have hSS : ∀ k, Sblk pb px k → k < W.heap.size := fun k hk => by rcases hk with rfl | rfl; exact hpb1.lt; exact hpx1.lt
  refine callsIn_of_wp Tryz.func45 rfl trivial ?_ rfl
  simp only [Tryz.ntmps45, List.size_toArray, List.length_cons, List.length_nil, Nat.reduceAdd, Nat.reduceSub, Array.replicate_succ, Array.replicate_zero, List.push_toArray, List.append_toArray, List.nil_append, List.cons_append]
  have hcx := hpx1.cell
  have hlx := hpx1.lt
  have hl1 : px < W.heap.size + 1 := by omega
  have hl2 : px < W.heap.size + 1 + 1 := by omega
  have hl3 : px < W.heap.size + 2 := by omega
  obtain ⟨W3, hW3⟩ : ∃ W3, (((W.alloc (.cells #[.func (.yield l) #[] #[]] 134)).alloc (.cells #[.int .u16 0] 22)).alloc (.cells #[.bool false] 4)) = W3 := ⟨_, rfl⟩
  have HS : Hid (Stt W.heap.size l pb px J W [] W3) := by
    rw [← hW3]
    refine ⟨((Boxed.new W _ _).alloc _).alloc _, fun k hk => ?_, by simp, .inl ⟨rfl, ?_, ⟨0, ?_⟩, ?_⟩⟩
    · have := hSS k hk
      rw [Below.heap_alloc _ _ _ (by simp; omega), Below.heap_alloc _ _ _ (by simp; omega), Below.heap_alloc _ _ _ (by omega)]
    · have := Boxed.new ((W.alloc (.cells #[.func (.yield l) #[] #[]] 134)).alloc (.cells #[.int .u16 0] 22)) 4 (.bool false)
      simpa using this
    · have := (Boxed.new (W.alloc (.cells #[.func (.yield l) #[] #[]] 134)) 22 (.int .u16 0)).alloc (.cells #[.bool false] 4)
      simpa using this
    · exact hJ _ W _ h0 ((((Below.refl _ W).alloc (Nat.le_refl _) _).alloc (by simp) _).alloc (by simp; omega) _)
  have HW := Lib.hid hW3
  have HL := Lib.hid hn
  have HY := Lib.hid hY
  have HJ := Lib.hid hJ
  have HP := Lib.hid hpb1
  have HSS := Lib.hid hSS
  clear hn hpx1 hW3 hY hJ hpb1 h0 hWh hpx hpb hSS hJx
  gi_wp2
  rw [HW.out]
  clear hcx hlx hl1 hl2 hl3 HW
  gi_loopw [12] (fun i wr => ∃ k : Nat, k ≤ n ∧ i = .int .i64 k ∧ Hid (Stt W.heap.size l pb px J W (flat (ss.take k)) wr)) (fun i _ => n - (intOf i).toNat)
  case atStart => exact ⟨0, Nat.zero_le _, rfl, HS⟩
  case round =>
    obtain ⟨k, hk, rfl, HT⟩ := hrel
    by_cases hlt : k < n
    · have hks : k < ss.length := by have := HL.out; omega
      obtain ⟨s, hs⟩ : ∃ s, ss[k] = s := ⟨_, rfl⟩
      have hcell : wr.cell? ⟨pb, k, none⟩ = some (.string s) := by
        have h1 : At wr pb t (ss.map Value.string) := (HT.out.2.1 pb (.inl rfl)).trans HP.out
        rw [h1.cell, List.getElem?_map, List.getElem?_eq_getElem hks, hs]; rfl
      have hss := hsz s (hs ▸ List.getElem_mem hks)
      have HE := Lib.hid (flat_take ss k hks)
      have HS0 : Hid (Stt W.heap.size l pb px J W (flat (ss.take k) ++ s.data.toList.take 0) wr) := by rw [List.take_zero, List.append_nil]; exact HT
      have HF : Hid (∀ j, (hj : j < s.size) → flat ss = (flat (ss.take k) ++ s.data.toList.take j) ++ s[j] :: (s.data.toList.drop (j + 1) ++ flat (ss.drop (k + 1)))) := by
        subst hs; exact fun j hj => flat_split ss k hks j hj
      have HD := Lib.hid hs
      clear HT hs
      gi_wp2
      clear hcell
      gi_loopw [18] (fun i wr => ∃ j : Nat, j ≤ s.size ∧ i = .int .i64 j ∧ Hid (Stt W.heap.size l pb px J W (flat (ss.take k) ++ s.data.toList.take j) wr)) (fun i _ => s.size - (intOf i).toNat)
      case atStart => exact ⟨0, Nat.zero_le _, rfl, HS0⟩
      case round =>
        obtain ⟨j, hj, rfl, HT⟩ := hrel
        by_cases hjl : j < s.size
        · have HC := Lib.hid (take_any W.heap.size l pb px J Jx W rfl HJ.out HSS.out (flat (ss.take k) ++ s.data.toList.take j) (s.data.toList.drop (j + 1) ++ flat (ss.drop (k + 1))) s[j]
            (fun pre x W1 h1 h2 => HY.out pre x W1 h1 (by rw [HF.out j hjl]; exact h2)) _ HT.out)
          gi_wp2_with (refine ⟨trivial, rfl, ?_⟩; gi_at_call 46; refine HC.out.mono ?_; clear HC; rintro e W1 (⟨rfl, hS1⟩ | ⟨rfl, pre, hx⟩))
          · refine ⟨⟨j + 1, by omega, int_eq (by omega), ?_⟩, by simp [intOf]; omega⟩
            rw [bytes_take s j hjl, ← List.append_assoc]; exact hS1
          · refine bodyPost_ret (results_none rfl _ _ _) rfl ?_
            exact ⟨⟨_, rfl⟩, .inr ⟨pre, trivial, hx⟩⟩
        · gi_wp2
          refine ⟨⟨k + 1, by omega, int_eq (by omega), ?_⟩, by simp [intOf]; omega⟩
          have e : flat (ss.take (k + 1)) = flat (ss.take k) ++ s.data.toList.take j := by
            have hl : s.data.toList.length ≤ j := by rw [Array.length_toList]; exact Nat.le_of_not_lt hjl
            rw [HE.out, HD.out, List.take_of_length_le hl]
          rw [e]; exact HT
    · have hkn : k = ss.length := by have := HL.out; omega
      have hall : flat (ss.take k) = flat ss := by rw [List.take_of_length_le (by omega)]
      rw [hall] at HT
      obtain ⟨hy, hh, hz, ⟨hp, hw, hf, hj⟩ | ⟨q, c, hqc, hq, hw, hf, hj⟩⟩ := HT.out
      · have hcw : wr.cell? ⟨W.heap.size + 1 + 1, 0, none⟩ = some (.bool false) := hw.cell
        have Hj := Lib.hid hj
        clear hj hw hf hy hh hp hall hkn
        gi_wp2
        go_end0
        exact ⟨⟨_, rfl⟩, .inl ⟨_, rfl, Hj.out⟩⟩
      · have hcw : wr.cell? ⟨W.heap.size + 1 + 1, 0, none⟩ = some (.bool true) := hw.cell
        have hcy := hy.cell
        have hch : wr.cell? ⟨W.heap.size + 1, 0, none⟩ = some (.int .u16 ((c.toNat : Int) * 256)) := by rw [hf.cell, Int.natCast_mul]; rfl
        have hlen : (wordsF q).length < (wordsF (flat ss)).length := by
          rw [hqc, wordsF_length, wordsF_length]; simp only [List.length_append, List.length_cons, List.length_nil]; omega
        have hY1 := HY.out (wordsF q) (wd c 0) wr hj hlen
        have hv : (((wd c 0).val : Nat) : Int) = (c.toNat : Int) * 256 := by simp [wd]
        rw [hv] at hY1
        have Hq := Lib.hid hq
        have Hc := Lib.hid hqc
        obtain ⟨fn, tmps, assign, body, hyy, hR⟩ := hY1
        clear hj hw hf hy hh hq hqc hall hkn hv hlen
        gi_wp2
        refine ⟨rfl, ?_⟩
        refine hR.mono ?_
        rintro e W' (⟨rfl, h1, _⟩ | ⟨rfl, h1, _⟩)
        · gi_wp2
          go_end0
          refine ⟨⟨_, rfl⟩, .inl ⟨_, rfl, ?_⟩⟩
          rw [Hc.out, wordsF_one q c Hq.out]; exact h1
        · gi_wp2
          go_end0
          exact ⟨⟨_, rfl⟩, .inr ⟨_, trivial, h1⟩⟩

set_option maxHeartbeats 400000 in
theorem words_any (pb n cap : Nat) (w : World) :
    CallsIn Fence.wide 0 Tryz.prog 37 #[.slice (some ⟨pb, 0, none⟩) n cap] w fun e w' =>
      e = .returned (.func (.func 45) #[] #[.pointer (some ⟨w.heap.size, 0, none⟩)]) ∧ w' = w.alloc (.cells #[.slice (some ⟨pb, 0, none⟩) n cap] 70) := by
  refine callsIn_of_wp Tryz.func37 rfl trivial ?_ rfl
  simp only [Tryz.ntmps37, List.size_toArray, List.length_cons, List.length_nil, Nat.reduceAdd, Nat.reduceSub, Array.replicate_succ, Array.replicate_zero, List.push_toArray, List.append_toArray, List.nil_append, List.cons_append]
  gi_wp2
  go_ret
  exact ⟨rfl, rfl⟩

set_option maxHeartbeats 1000000 in
/-- The sum of parts. -/
theorem of_any (pb n cap : Nat) (t : TypeId) (ss : List ByteArray) (w : World) (hn : n = ss.length) (hpb : At w pb t (ss.map Value.string)) (hsz : ∀ s ∈ ss, s.size ≤ 9223372036854775807) (hn2 : n ≤ 1000) (hfl : (flat ss).length ≤ 1000000) :
    Calls Tryz.prog 22 #[.slice (some ⟨pb, 0, none⟩) n cap] w fun e w' => e = .returned (.int .u16 (fold (sumL (flat ss)) : Nat)) ∧ Below w.heap.size w w' := by
  refine callsIn_wide (n := 0).1 ?_
  refine callsIn_of_wp_marks Tryz.func22 rfl trivial ?_
  simp only [Tryz.ntmps22, List.size_toArray, List.length_cons, List.length_nil, Nat.reduceAdd, Nat.reduceSub, Array.replicate_succ, Array.replicate_zero, List.push_toArray, List.append_toArray, List.nil_append, List.cons_append]
  have HH := Lib.hid hpb
  have HL := Lib.hid hn
  clear hpb hn
  gi_wp2_with (refine ⟨trivial, rfl, ?_⟩; gi_at_call 37; refine (words_any _ _ _ _).mono ?_; rintro e w' ⟨rfl, rfl⟩)
  obtain ⟨W0, hW0⟩ : ∃ W0, ((w.alloc (.cells #[.int .u64 0] 77)).alloc (.cells #[.slice (some ⟨pb, 0, none⟩) n cap] 70)) = W0 := ⟨_, rfl⟩
  have hz0 : W0.heap.size = w.heap.size + 2 := by rw [← hW0]; simp
  have hb0 : Below w.heap.size w W0 := by rw [← hW0]; exact ((Below.refl _ w).alloc (Nat.le_refl _) _).alloc (by simp) _
  have hn0 : Boxed W0 w.heap.size 77 (.int .u64 0) := by rw [← hW0]; exact (Boxed.new w _ _).alloc _
  have hx0 : Boxed W0 (w.heap.size + 1) 70 (.slice (some ⟨pb, 0, none⟩) n cap) := by
    rw [← hW0]; have := Boxed.new (w.alloc (.cells #[.int .u64 0] 77)) 70 (.slice (some ⟨pb, 0, none⟩) n cap); simpa using this
  have hp0 : At W0 pb t (ss.map Value.string) := HH.out.kept hb0
  have hpl : pb < w.heap.size := HH.out.lt
  rw [hW0]
  have hN : (wordsF (flat ss)).length ≤ 500001 := by rw [wordsF_length]; omega
  clear hW0
  refine wpIn_range_iter (gf := 45) (lb := #[.pointer (some ⟨w.heap.size + 1, 0, none⟩)]) rfl (enters_of Tryz.func45 (by kernel_rfl) rfl)
    (words_iter (w.heap.size + 1) pb n cap t ss W0 HL.out hx0 hp0 hsz hn2) (fun k hk => by rcases hk with rfl | rfl <;> omega) (fun _ => rfl)
    (fun pre W => Boxed W w.heap.size 77 (.int .u64 (sumF pre : Nat)) ∧ Below w.heap.size w W)
    (fun _ _ _ => False)
    (fun s A C hs hb => ⟨(hb.block _ (by omega)).trans hs.1, hs.2.trans (hb.mono (by omega))⟩)
    (fun _ _ _ _ hs _ => hs)
    ⟨hn0, hb0⟩
    (fun x => { tmps := #[.slice (some ⟨pb, 0, none⟩) n cap, undef, .int .u16 0, .pointer (some ⟨w.heap.size, 0, none⟩), .int .u16 (x.val : Nat), .slice (some ⟨pb, 0, none⟩) n cap, .func (.func 45) #[] #[.pointer (some ⟨w.heap.size + 1, 0, none⟩)], .int .u16 (x.val : Nat), undef, undef, undef, undef, undef, undef], defers := [] }) ?assign ?body ?done ?stop
  case assign =>
    intro l x W K hK
    gi_wp2
    exact hK
  case body =>
    rintro l pre x W ⟨hb, hbl⟩ hlen hsz1
    obtain ⟨m, hm⟩ : ∃ m, sumF pre = m := ⟨_, rfl⟩
    have hs1 := sumF_le pre
    have hx1 := x.isLt
    rw [hm] at hb hs1
    have hm1 : m ≤ 65535 * 500001 := Nat.le_trans hs1 (Nat.mul_le_mul_left _ (by omega))
    have hc := hb.cell
    have hf := hb.frozen
    have Hb := Lib.hid hb
    have Hm := Lib.hid hm
    have Hbl := Lib.hid hbl
    clear hb hbl hm hs1 hlen
    gi_wp2
    refine ⟨Abv.set W (p := ⟨_, 0, none⟩) (by simp; omega) _, ?_, ?_, ?_⟩
    · intro k hk
      refine Below.heap_setCell _ _ _ _ ?_
      rcases hk with rfl | rfl
      · simp; omega
      · simp
    · rw [sumF_snoc, Hm.out]
      have := Hb.out.set (.int .u64 ((m : Int) + (x.val : Nat)))
      rw [Int.natCast_add]; exact this
    · exact Hbl.out.setCell (p := ⟨_, 0, none⟩) (Nat.le_refl _) _
  case done =>
    rintro D xs W hD rfl ⟨hb, hbl⟩ hK
    rw [sumF_words] at hb
    have hle := sumL_le (flat ss)
    obtain ⟨m, hm⟩ : ∃ m, sumL (flat ss) = m := ⟨_, rfl⟩
    rw [hm] at hb hle
    have HM := Lib.hid hm
    have hm1 : m ≤ 1000000000000 := Nat.le_trans hle (Nat.le_trans (Nat.mul_le_mul_left _ hfl) (by decide))
    have hc := hb.cell
    have Hbl := Lib.hid hbl
    have HK := Lib.hid hK
    clear hb hbl hm hK hle
    gi_wp2_with (refine ⟨trivial, rfl, ?_⟩; gi_at_call 38; refine (callsIn_wide.2 (fold_any m _ hm1)).mono ?_; rintro e w' ⟨rfl, rfl⟩)
    refine ⟨by simp, .inl ⟨_, _, rfl, run_takeDeferred HK.out, ?_⟩⟩
    refine ⟨_, results_tmp (t := 2) rfl _ _ _, ?_, ?_⟩
    · rw [HM.out]; rfl
    · exact Hbl.out.grown (grownBy_putObj' W D _) Hbl.out.size (fun k e => by cases e; omega)
  case stop =>
    rintro D c pre W _ _ h _
    exact h.elim

set_option maxHeartbeats 400000 in
theorem whole_any (pb n cap : Nat) (t : TypeId) (ss : List ByteArray) (w : World) (hn : n = ss.length) (hpb : At w pb t (ss.map Value.string)) (hsz : ∀ s ∈ ss, s.size ≤ 9223372036854775807) (hn2 : n ≤ 1000) (hfl : (flat ss).length ≤ 1000000) :
    Calls Tryz.prog 39 #[.slice (some ⟨pb, 0, none⟩) n cap] w fun e w' => e = .returned (.bool (decide (fold (sumL (flat ss)) = 65535))) ∧ Below w.heap.size w w' := by
  have HC := Lib.hid (of_any pb n cap t ss w hn hpb hsz hn2 hfl)
  obtain ⟨m, hm⟩ : ∃ m, fold (sumL (flat ss)) = m := ⟨_, rfl⟩
  rw [hm] at HC ⊢
  clear hn hpb hsz hfl hm
  go_enter Tryz.func39, Tryz.ntmps39
  go_wp2_with (go_at_call 22; refine HC.out.mono ?_; rintro e w' ⟨rfl, hb⟩)
  go_ret
  refine ⟨?_, hb⟩
  show Ending.returned (.bool ((m : Int) == 65535)) = _
  congr 2
  rw [Bool.eq_iff_iff]; simp; omega

end Go.Proofs.YtbbkinldfpphdaaGreatDoor
