/- The document's Walk over an area, walked. -/
import Derived.Test.YtdkkfhlijapbeaaA3
namespace Go.Proofs.Ytdkkfhlijapbeaa
open Go.RowKit Pl

theorem cut_cut (s : ByteArray) (p a b : Nat) (_h : a + p ≤ b + p) (_hb : b + p ≤ s.size) : (s.extract p s.size).extract a b = s.extract (p + a) (p + b) := by
  apply ba_ext
  rw [cut_data, cut_data, cut_data, cutL, cutL, cutL, List.take_of_length_le (l := s.data.toList) (by rw [bytes_len]; exact Nat.le_refl _), List.take_drop, List.drop_drop]
theorem cut_byte (s : ByteArray) (p i : Nat) : bn (s.extract p s.size).data.toList i = bn s.data.toList (p + i) := by
  unfold bn
  rw [cut_data, cutL, List.take_of_length_le (l := s.data.toList) (by rw [bytes_len]; exact Nat.le_refl _), List.getD_eq_getElem?_getD, List.getD_eq_getElem?_getD, List.getElem?_drop]
theorem cut_all (s : ByteArray) : s.extract 0 s.size = s := by
  apply ba_ext
  rw [cut_data, cutL, List.take_of_length_le (by rw [bytes_len]; exact Nat.le_refl _)]; rfl
theorem cut_size (s : ByteArray) (p : Nat) (h : p ≤ s.size) : (s.extract p s.size).size + p = s.size := by rw [ByteArray.size_extract]; omega

/-- What the document's walk gives. -/
def WalkEnd (s : ByteArray) (w : World) (e : Ending) (w' : World) : Prop := ∃ v, e = .returned (.tuple #[v, .int .i64 (walkR s).2]) ∧ Items w' v (walkR s).1 ∧ Below w.heap.size w w'
theorem walkEnd_bad {s : ByteArray} {w w' : World} {e : Ending} {k : Nat} (h : walkR s = ([], k)) (he : e = .returned (.tuple #[.slice none 0 0, .int .i64 k])) (hb : Below w.heap.size w w') : WalkEnd s w e w' := by
  unfold WalkEnd; rw [h]; exact ⟨_, he, .inl ⟨rfl, rfl⟩, hb⟩
theorem nobad_text (x : Fd) (h : x.2.1 ≠ 0) (h2 : x.2.2 = ⟨#[]⟩) : badF x = true := by
  obtain ⟨a, b, c⟩ := x
  simp only at h h2
  subst h2
  show (b != 0 && true) = true
  simp [h]

set_option maxRecDepth 20000 in
set_option maxHeartbeats 8000000 in
theorem rwalk4_any (s : ByteArray) (w : World) (hs : s.size ≤ 9223372036854775807) :
    Calls Try.prog 50 #[.string s] w (WalkEnd s w) := by
  by_cases h1 : 40 < s.size
  · have e1 : decide (40 < (s.size : Int)) = true := by simp; omega
    have hR : Hid (walkR s = ([], 6)) := by show walkR s = _; unfold walkR; rw [if_pos h1]
    go_enter Try.func50, Try.ntmps50
    go_wp2
    go_ret2
    exact walkEnd_bad hR.out rfl (Below.refl _ _)
  have e1 : decide (40 < (s.size : Int)) = false := by simp; omega
  by_cases h2 : s.size % 4 = 0
  case neg =>
    have hR : Hid (walkR s = ([], 5)) := by show walkR s = _; unfold walkR; rw [if_neg h1, if_pos h2]
    have e2 : ((s.size : Int) % 4 == 0) = false := by rw [beq_eq_false_iff_ne]; omega
    have e2' : ((s.size : Int) % 4 != 0) = true := by rw [bne_iff_ne]; omega
    go_enter Try.func50, Try.ntmps50
    go_wp2
    go_ret2
    exact walkEnd_bad hR.out rfl (Below.refl _ _)
  have e2 : ((s.size : Int) % 4 == 0) = true := by rw [beq_iff_eq]; omega
  have e2' : ((s.size : Int) % 4 != 0) = false := by rw [bne_eq_false_iff_eq]; omega
  have HR : Hid (walkR s = (match (fds s 0).find? badF with | some x => ([], x.2.1) | none => ((fds s 0).map itF, 0))) := by
    show walkR s = _
    unfold walkR; rw [if_neg h1, if_neg (by omega)]
    rfl
  have hs40 : s.size ≤ 40 := by omega
  obtain ⟨j0, hi, hz0, hz1, hz2⟩ := info_parts info_item
  clear h1 h2 hs
  go_enter Try.func50, Try.ntmps50
  go_wp2_with fail
  go_loopw [0, 4] (fun sv ov wr => ∃ (p : Nat) (pre : List Fd) (c : ByteArray), p ≤ s.size ∧ c.size + p ≤ s.size ∧ s.size ≤ c.size + p ∧ sv = .string c ∧ Hid (c = s.extract p s.size) ∧ Hid (pre ++ fds s p = fds s 0 ∧ ∀ y ∈ pre, badF y = false) ∧ Hid (pre.length ≤ p) ∧ Hid (wr.ownsRow w.heap.size 54 2 ov pre.length (itemsC pre)) ∧ Hid (Below w.heap.size w wr)) (fun sv _ _ => match sv with | .string c => c.size | _ => 0)
  case atStart => exact ⟨0, [], s, Nat.zero_le _, by omega, by omega, rfl, (cut_all s).symm, ⟨rfl, by simp⟩, Nat.zero_le _, World.ownsRow_nil _ _ _ _, Below.refl _ _⟩
  case round =>
    clear e1 e2 e2'
    obtain ⟨p, pre, c, hp, hc1, hc2, rfl, HC, HT, HP, HO, HB⟩ := hrel
    have hend : Hid (∀ (_ : fds s p = []), WalkEnd s w (.returned (.tuple #[u4, .int .i64 0])) wr) := by
      intro hf
      have ht := HT.out
      rw [hf, List.append_nil] at ht
      have hn : (fds s 0).find? badF = none := by rw [← ht.1]; exact List.find?_eq_none.2 (fun y hy => by rw [ht.2 y hy]; simp)
      have hr := HR.out
      rw [hn] at hr
      unfold WalkEnd
      rw [hr]
      refine ⟨_, rfl, ?_, HB.out⟩
      rw [← ht.1]
      exact items_of HO.out (fun _ _ => rfl)
    have hbad : Hid (∀ (x : Fd) (r : List Fd), fds s p = x :: r → badF x = true → walkR s = ([], x.2.1)) := by
      intro x r hf hx
      have ht := HT.out
      rw [HR.out, find_prefix (l := fds s 0) (pre := pre) (x := x) ⟨r, by rw [← ht.1, hf]; simp⟩ ht.2 hx]
    by_cases hc0 : c.size = 0
    · have hce : c.toList = [] := by
        rw [ByteArray.toList_eq]; exact List.eq_nil_of_length_eq_zero (by rw [bytes_len]; exact hc0)
      have hf := fds_end s p (by omega)
      have HE := Lib.hid (hend.out hf)
      clear hf hend hbad
      go_wp2_with fail
      go_ret2
      exact HE.out
    · have hcl : c.toList.length = c.size := by rw [ByteArray.toList_eq, bytes_len]
      have hce : ¬ c.toList = [] := fun e => by rw [e] at hcl; exact hc0 hcl.symm
      have hce2 : c.toList.isEmpty = false := by cases h : c.toList with | nil => exact absurd h hce | cons _ _ => rfl
      have hpos : 0 < c.size := by omega
      have hst := fds_step s p (by omega)
      have hcut := HC.out
      obtain ⟨b0, g0⟩ : ∃ b, bn s.data.toList p = b := ⟨_, rfl⟩
      have a0 : ((c[0]'hpos).toNat : Int) = (b0 : Int) := by rw [bn_get c 0 hpos, hcut, cut_byte, Nat.add_zero, g0]
      have hb0 : b0 < 256 := by rw [← g0]; unfold bn; exact UInt8.toNat_lt _
      rw [g0] at hst
      clear g0 hcl
      by_cases c0 : b0 = 0
      · rw [if_pos c0] at hst
        have HE := Lib.hid (hend.out hst)
        have t0 : ((b0 : Int) == 0) = true := by rw [beq_iff_eq]; omega
        have t0' : ((b0 : Int) != 0) = false := by rw [bne_eq_false_iff_eq]; omega
        clear hend hbad hst hcut c0 HT HC
        go_wp2_with fail
        go_ret2
        exact HE.out
      rw [if_neg c0] at hst
      have t0 : ((b0 : Int) == 0) = false := by rw [beq_eq_false_iff_ne]; omega
      have t0' : ((b0 : Int) != 0) = true := by rw [bne_iff_ne]; omega
      by_cases c1 : b0 = 1
      · rw [if_pos c1] at hst
        have t1 : ((b0 : Int) == 1) = true := by rw [beq_iff_eq]; omega
        have HT2 : Hid (pre ++ fds s (p + 1) = fds s 0 ∧ ∀ y ∈ pre, badF y = false) := by
          have ht := HT.out
          rw [hst] at ht; exact ht
        have hc3 : (c.extract 1 c.size).size + 1 = c.size := by rw [ByteArray.size_extract]; omega
        have HC2 : Hid (c.extract 1 c.size = s.extract (p + 1) s.size) := by
          have h := cut_cut s p 1 c.size (by omega) (by omega)
          rw [← hcut] at h
          show c.extract 1 c.size = _
          rw [h, show p + c.size = s.size by omega]
        obtain ⟨c', ec'⟩ : ∃ c', c.extract 1 c.size = c' := ⟨_, rfl⟩
        rw [ec'] at HC2 hc3
        have h1c : (1 : Int) ≤ (c.size : Int) := by omega
        clear hend hbad hst hcut c0 c1 HT HC
        go_wp2_with fail
        refine ⟨⟨p + 1, pre, c', by omega, by omega, by omega, rfl, HC2, HT2, ?_, HO, HB⟩, by simp; omega⟩
        show pre.length ≤ p + 1
        have := HP.out; omega
      rw [if_neg c1] at hst
      have t1 : ((b0 : Int) == 1) = false := by rw [beq_eq_false_iff_ne]; omega
      by_cases cE : p + 1 = s.size
      · rw [if_pos cE] at hst
        have hR := hbad.out _ _ hst (nobad_text _ (by simp) rfl)
        have HRr := Lib.hid hR
        have hc1s : c.size = 1 := by omega
        have t2 : decide ((c.size : Int) < 2) = true := by simp; omega
        clear hend hbad hst hcut c0 c1 HT HC hR hc1s
        go_wp2_with fail
        go_ret2
        exact walkEnd_bad HRr.out rfl HB.out
      rw [if_neg cE] at hst
      have t2 : decide ((c.size : Int) < 2) = false := by simp; omega
      have hpos1 : 1 < c.size := by omega
      obtain ⟨n, gn⟩ : ∃ b, bn s.data.toList (p + 1) = b := ⟨_, rfl⟩
      have an : ((c[1]'hpos1).toNat : Int) = (n : Int) := by rw [bn_get c 1 hpos1, hcut, cut_byte, gn]
      have hnb : n < 256 := by rw [← gn]; unfold bn; exact UInt8.toNat_lt _
      rw [gn] at hst
      clear gn
      by_cases c2 : n < 2
      · rw [if_pos c2] at hst
        have hR := hbad.out _ _ hst (nobad_text _ (by simp) rfl)
        have HRr := Lib.hid hR
        have t3 : decide ((n : Int) < 2) = true := by simp; omega
        clear hend hbad hst hcut c0 c1 HT HC hR
        go_wp2_with fail
        go_ret2
        exact walkEnd_bad HRr.out rfl HB.out
      rw [if_neg c2] at hst
      have t3 : decide ((n : Int) < 2) = false := by simp; omega
      by_cases c3 : s.size - p < n
      · rw [if_pos c3] at hst
        have hR := hbad.out _ _ hst (nobad_text _ (by simp) rfl)
        have HRr := Lib.hid hR
        have t4 : decide ((c.size : Int) < (n : Int)) = true := by simp; omega
        have t4' : decide (c.size < n) = true := by simp; omega
        clear hend hbad hst hcut c0 c1 HT HC hR
        go_wp2_with fail
        go_ret2
        exact walkEnd_bad HRr.out rfl HB.out
      rw [if_neg c3] at hst
      have t4 : decide ((c.size : Int) < (n : Int)) = false := by simp; omega
      have t4' : decide (c.size < n) = false := by simp; omega
      obtain ⟨body, hbody⟩ : ∃ b, c.extract 2 n = b := ⟨_, rfl⟩
      have HBO : Hid (s.extract (p + 2) (p + n) = body) := by
        have h := cut_cut s p 2 n (by omega) (by omega)
        rw [← hcut] at h
        show _ = body
        rw [← h, hbody]
      obtain ⟨c', ec'⟩ : ∃ c', c.extract n c.size = c' := ⟨_, rfl⟩
      have hc3 : c'.size + n ≤ c.size ∧ c.size ≤ c'.size + n := by rw [← ec', ByteArray.size_extract]; omega
      have HC2 : Hid (c' = s.extract (p + n) s.size) := by
        have h := cut_cut s p n c.size (by omega) (by omega)
        rw [← hcut] at h
        show c' = _
        rw [← ec', h, show p + c.size = s.size by omega]
      rw [HBO.out] at hst
      have HT2 : Hid ((pre ++ [((b0 : Int), 0, body)]) ++ fds s (p + n) = fds s 0 ∧ ∀ y ∈ pre ++ [((b0 : Int), 0, body)], badF y = false) := by
        have ht := HT.out
        rw [hst] at ht
        refine ⟨by rw [← ht.1]; simp, fun y hy => ?_⟩
        rcases List.mem_append.1 hy with hy | hy
        · exact ht.2 y hy
        · rw [List.mem_singleton.1 hy]; rfl
      have i1 : (2 : Int) ≤ (n : Int) := by omega
      have i2 : (n : Int) ≤ (c.size : Int) := by omega
      have i3 : (0 : Int) ≤ (n : Int) := by omega
      have hpl : pre.length ≤ 40 := by have := HP.out; omega
      have w0 : IntKind.i64.wrap (b0 : Int) = (b0 : Int) := IntWalk.i64_in _ (by omega)
      clear hend hbad hst hcut c0 c1 HT HC
      go_upto_region 16 with fail
      refine wp_region_order 10 [(0, true), (1, true), (2, true), (3, true), (4, true), (5, true), (6, true), (7, true), (8, false), (9, false), (10, false)] (fun _ => True) (by kernel_rfl) (by kernel_rfl) (by kernel_rfl) rfl (by kernel_rfl) (fun _ _ _ _ _ h => h) trivial ?_
      iterate 8
        refine walkG_val (v := ?_) rfl (by rfl) (fun w' hS => ?_) ?_
        rotate_left
        · clear hS
          go_simp
          exact rfl
        simp only [Act.put, List.setIfInBounds_toArray, List.set_cons_zero, List.set_cons_succ]
      refine walkG_do rfl (by rfl) ?_
      go_simp
      refine walkG_do rfl (by rfl) (wp_append_lies _ _ _ _ rfl w.heap.size 54 j0 (.agg #[.int .i64 0, .string ⟨#[]⟩]) 2 24 Try.underlying52 hi hz0 hz1 hz2 rfl (by decide) _ pre.length (itemsC pre) rfl ((HO.out.alloc _).drew) ⟨wr.heap.size, 0, none⟩ 1 1 [.int .i64 b0, .string body] rfl rfl
        (World.news_of_block (cs := #[.int .i64 b0, .string body]) (t := 54) (fr := (0, 0)) (heap_alloc_new wr _)) (by simp [Value.oneCell']) (by omega) (by simp [maxLen]; omega) (by omega) (by have := HB.out.size; simp; omega) (wr.heap.size + 1) (by simp) ?_)
      intro g1 cap1 w1 hown1 hgrow1 _ _
      have hb1 := ((HB.out.alloc HB.out.size _).drew).grown hgrow1 (by have := HB.out.size; simp; omega) (fun k hk => (HO.out.lt k hk).1)
      have HO1 := Lib.hid hown1
      have HB1 := Lib.hid hb1
      clear hown1 hgrow1 hb1 HO
      refine ⟨fun _ => trivial, ?_⟩
      simp only [Act.put, List.setIfInBounds_toArray, List.set_cons_zero, List.set_cons_succ]
      refine walkG_do rfl (by rfl) ?_
      go_simp
      simp only [walkG]
      have hext : c.extract n c.size = c' := ec'
      go_wp2_with fail
      refine ⟨⟨p + n, pre ++ [((b0 : Int), 0, body)], c', by omega, by omega, by omega, rfl, HC2, HT2, ?_, ?_, HB1.out⟩, by simp; omega⟩
      · show (pre ++ [((b0 : Int), 0, body)]).length ≤ p + n
        have := HP.out
        rw [List.length_append]
        simp; omega
      · show w1.ownsRow _ _ _ _ _ _
        rw [List.length_append, itemsC_snoc]
        exact HO1.out
end Go.Proofs.Ytdkkfhlijapbeaa
