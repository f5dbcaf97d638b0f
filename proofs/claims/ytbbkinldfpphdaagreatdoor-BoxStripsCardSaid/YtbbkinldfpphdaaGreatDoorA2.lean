/- area.walk: the iterator over what stands in an area, walked. -/
import Derived.Test.YtbbkinldfpphdaaGreatDoorAp
import Derived.Test.YtbbkinldfpphdaaGreatDoorRf
import Derived.Test.YtbbkinldfpphdaaGreatDoorR2
import Derived.Test.YtbbkinldfpphdaaGreatDoorOf
import Derived.WalkMore
import Derived.BigQuiet
namespace Go.Proofs.YtbbkinldfpphdaaGreatDoor
open Go.RowKit Pl Go.Shelf
attribute [local go_sem] Oper.semAt_some

set_option maxHeartbeats 400000 in
theorem awalk_fn (s : ByteArray) (w : World) :
    CallsIn Fence.wide 0 Tryz.prog 17 #[.string s] w fun e w' =>
      e = .returned (.func (.func 36) #[] #[.pointer (some ⟨w.heap.size, 0, none⟩)]) ∧ w' = w.alloc (.cells #[.string s] 9) := by
  refine callsIn_of_wp Tryz.func17 rfl trivial ?_ rfl
  simp only [Tryz.ntmps17, List.size_toArray, List.length_cons, List.length_nil, Nat.reduceAdd, Nat.reduceSub, Array.replicate_succ, Array.replicate_zero, List.push_toArray, List.append_toArray, List.nil_append, List.cons_append]
  gi_wp2
  go_ret
  exact ⟨rfl, rfl⟩

def encF (x : Fd) : Array Value := #[.agg #[.int .i64 x.1, .int .i64 x.2.1, .string x.2.2]]
/-- Where the iterator stands. -/
def SW (s : ByteArray) (px : Nat) (J : List Fd → World → Prop) (W : World) (p : Nat) (pre : List Fd) (w : World) : Prop :=
  pre ++ fds s p = fds s 0 ∧ J pre w ∧ Held (fun k => k = px) W w ∧ W.heap.size ≤ w.heap.size

/-- One item handed out. -/
theorem yield_one (it : TypeId) (hit : it ≠ 57) (px l : Nat) (s : ByteArray) (J Jx : List Fd → World → Prop) (W : World) (hlx : px < W.heap.size)
    (hY : ∀ (pre : List Fd) (x : Fd) (W1 : World), J pre W1 → pre.length < (fds s 0).length →
      YieldAt Fence.wide 0 Tryz.prog l (encF x) W1 fun e W' => (e = .returned (.bool true) ∧ J (pre ++ [x]) W' ∧ AbvT it W.heap.size W1 W' ∧ Held (fun k => k = px) W1 W') ∨ (e = .returned (.bool false) ∧ Jx (pre ++ [x]) W' ∧ AbvT it W.heap.size W1 W' ∧ Held (fun k => k = px) W1 W'))
    (hJ : LowT it W.heap.size J) (p : Nat) (pre : List Fd) (wr : World) (h : SW s px J W p pre wr) (x : Fd) (r : List Fd) (hx : fds s p = x :: r) (c : Int) (hcc : (x.2.1 : Int) = c)
    (W1 : World) (hb : Blt it wr.heap.size wr W1) (hA : At W1 wr.heap.size 57 [.int .i64 x.1, .int .i64 c, .string x.2.2]) :
    YieldAt Fence.wide 0 Tryz.prog l #[.agg #[.int .i64 x.1, .int .i64 c, .string x.2.2]] W1 fun e W' =>
      (e = .returned (.bool true) ∧ J (pre ++ [x]) W' ∧ W'.cell? ⟨wr.heap.size, 1, none⟩ = some (.int .i64 c) ∧ Held (fun k => k = px) W W' ∧ W.heap.size ≤ W'.heap.size) ∨
      (e = .returned (.bool false) ∧ Jx (pre ++ [x]) W' ∧ W'.cell? ⟨wr.heap.size, 1, none⟩ = some (.int .i64 c)) := by
  subst hcc
  obtain ⟨h1, h2, h3, h4⟩ := h
  have hlen : pre.length < (fds s 0).length := by rw [← h1, hx, List.length_append, List.length_cons]; omega
  refine YieldAt.mono (hY pre x _ (hJ _ _ _ h2 (hb.mono h4)) hlen) ?_
  rintro e W' (⟨rfl, k1, k2, k3⟩ | ⟨rfl, k1, k2, k3⟩)
  · refine .inl ⟨rfl, k1, ?_, ?_, ?_⟩
    · have hA : At W' wr.heap.size 57 [.int .i64 x.1, .int .i64 x.2.1, .string x.2.2] := (k2.same _ h4 hA.lt (fun cs e => by rw [show W1.heap[wr.heap.size]? = _ from hA] at e; exact hit (by injection e with e; injection e with e1 e2; exact e2.symm))).trans hA
      rw [hA.cell]; rfl
    · refine (h3.trans fun k hk => ?_).trans k3
      subst hk
      exact hb.below.block _ (by omega)
    · have := k2.size; have := hb.below.size; omega
  · refine .inr ⟨rfl, k1, ?_⟩
    have hA : At W' wr.heap.size 57 [.int .i64 x.1, .int .i64 x.2.1, .string x.2.2] := (k2.same _ h4 hA.lt (fun cs e => by rw [show W1.heap[wr.heap.size]? = _ from hA] at e; exact hit (by injection e with e; injection e with e1 e2; exact e2.symm))).trans hA
    rw [hA.cell]; rfl

set_option maxRecDepth 20000 in
set_option maxHeartbeats 4000000 in
theorem awalk_iter (it : TypeId) (px : Nat) (s : ByteArray) (w : World) (hpx : Boxed w px 9 (.string s)) (hs : s.size ≤ 40) (hit : it ≠ 57) :
    IterT it Tryz.prog 36 #[.pointer (some ⟨px, 0, none⟩)] encF (fun k => k = px) (fun xs => xs = fds s 0) (fun pre => pre <+: fds s 0) (fds s 0).length w := by
  intro l J Jx W hWs hWh hJ hJx hY h0
  have hpx1 : Boxed W px 9 (.string s) := (hWh px rfl).trans hpx
  have hlx := hpx1.lt
  refine callsIn_of_wp Tryz.func36 rfl trivial ?_ rfl
  simp only [Tryz.ntmps36, List.size_toArray, List.length_cons, List.length_nil, Nat.reduceAdd, Nat.reduceSub, Array.replicate_succ, Array.replicate_zero, List.push_toArray, List.append_toArray, List.nil_append, List.cons_append]
  have HS0 : Hid (SW s px J W 0 [] W) := ⟨rfl, h0, Held.refl _ _, Nat.le_refl _⟩
  have HY := Lib.hid hY
  have HJ := Lib.hid hJ
  have HP := Lib.hid hpx1
  clear hY hJ hpx1 h0 hWh hpx hJx hWs
  gi_wp2
  refine (wpIn_wide (n := 0)).2 ?_
  refine wp_scope_straight ?_
  refine (wpIn_wide (n := 0)).1 ?_
  refine wpIn_seq (wpIn_label ?_)
  gi_wp2
  gi_loopw [3] (fun i wr => ∃ (p : Nat) (pre : List Fd), p ≤ s.size ∧ i = .int .i64 p ∧ Hid (SW s px J W p pre wr)) (fun i _ => s.size - (intOf i).toNat)
  case atStart => exact ⟨0, [], Nat.zero_le _, rfl, HS0⟩
  case round =>
    clear HS0
    obtain ⟨p, pre, hp, rfl, HT⟩ := hrel
    have hcx : wr.cell? ⟨px, 0, none⟩ = some (.string s) := (show Boxed wr px 9 (.string s) from (HT.out.2.2.1 px rfl).trans HP.out).cell
    have hle := HT.out.2.2.2
    have hlx2 : px < wr.heap.size := by omega
    by_cases hlt : p < s.size
    · have hst := fds_step s p hlt
      obtain ⟨b0, g0⟩ : ∃ b, bn s.data.toList p = b := ⟨_, rfl⟩
      have a0 : ((s[p]'hlt).toNat : Int) = (b0 : Int) := by rw [bn_get s p hlt, g0]
      have hb0 : b0 < 256 := by have := (s[p]'hlt).toNat_lt; omega
      rw [g0] at hst
      clear g0
      by_cases c0 : b0 = 0
      · have HE : Hid (J (fds s 0) wr) := by
          have h := HT.out.1
          rw [hst, if_pos c0, List.append_nil] at h
          rw [← h]; exact HT.out.2.1
        clear HT HY HJ hst
        subst c0
        gi_wp2
        rw [Exit.noGoto_normal]
        go_end0
        exact ⟨⟨_, rfl⟩, .inl ⟨_, rfl, HE.out⟩⟩
      have d0 : ¬ (b0 : Int) = 0 := by omega
      rw [if_neg c0] at hst
      by_cases c1 : b0 = 1
      · rw [if_pos c1] at hst
        have HS1 : Hid (SW s px J W (p + 1) pre wr) := by
          obtain ⟨h1, h2⟩ := HT.out
          exact ⟨by rw [← h1, hst], h2⟩
        clear HT HY HJ hst HP
        subst c1
        gi_wp2
        refine ⟨⟨p + 1, pre, by omega, ?_, HS1⟩, ?_⟩
        · exact int_eq (by omega)
        · simp [intOf]; omega
      have d1 : ¬ (b0 : Int) = 1 := by omega
      rw [if_neg c1] at hst
      by_cases cE : p + 1 = s.size
      · rw [if_pos cE] at hst
        have eE : (p : Int) + 1 = (s.size : Int) := by omega
        have HR := yield_one it hit px l s J Jx W hlx HY.out HJ.out p pre wr HT.out _ _ hst 4 rfl (wr.alloc (.cells #[.int .i64 b0, .int .i64 4, .string ⟨#[]⟩] 57)) (Blt.of_all ((Below.refl _ wr).alloc (Nat.le_refl _) _) (Nat.le_refl _)) (At.new _ _ [.int .i64 b0, .int .i64 4, .string ⟨#[]⟩])
        have HE : Hid (pre ++ [((b0 : Int), 4, ⟨#[]⟩)] = fds s 0) := by
          have h := HT.out.1; rw [hst] at h; exact h
        clear HT HY HJ hst HP
        obtain ⟨fn, tmps, assign, body, hy, HR⟩ := HR
        have HR := Lib.hid HR
        gi_wp2
        refine ⟨rfl, ?_⟩
        refine HR.out.mono ?_
        clear HR
        rintro e W' (⟨rfl, hA, hc, -, -⟩ | ⟨rfl, hB, hc⟩)
        · have HA := Lib.hid hA
          clear hA
          gi_wp2
          rw [Exit.noGoto_normal]
          go_end0
          exact ⟨⟨_, rfl⟩, .inl ⟨_, HE.out, HA.out⟩⟩
        · have HB := Lib.hid hB
          clear hB
          gi_wp2
          rw [Exit.noGoto_normal]
          go_end0
          exact ⟨⟨_, rfl⟩, .inr ⟨_, ⟨[], by rw [List.append_nil]; exact HE.out⟩, HB.out⟩⟩
      rw [if_neg cE] at hst
      have eE : ¬ (p : Int) + 1 = (s.size : Int) := by omega
      have hlt1 : p + 1 < s.size := by omega
      obtain ⟨n0, g1⟩ : ∃ b, bn s.data.toList (p + 1) = b := ⟨_, rfl⟩
      have a1 : ((s[p + 1]'hlt1).toNat : Int) = (n0 : Int) := by rw [bn_get s (p + 1) hlt1, g1]
      have hn0 : n0 < 256 := by have := (s[p + 1]'hlt1).toNat_lt; omega
      rw [g1] at hst
      clear g1
      by_cases c2 : n0 < 2
      · rw [if_pos c2] at hst
        have d2 : (n0 : Int) < 2 := by omega
        have HR := yield_one it hit px l s J Jx W hlx HY.out HJ.out p pre wr HT.out _ _ hst 5 rfl (wr.alloc (.cells #[.int .i64 b0, .int .i64 5, .string ⟨#[]⟩] 57)) (Blt.of_all ((Below.refl _ wr).alloc (Nat.le_refl _) _) (Nat.le_refl _)) (At.new _ _ [.int .i64 b0, .int .i64 5, .string ⟨#[]⟩])
        have HE : Hid (pre ++ [((b0 : Int), 5, ⟨#[]⟩)] = fds s 0) := by
          have h := HT.out.1; rw [hst] at h; exact h
        clear HT HY HJ hst HP
        obtain ⟨fn, tmps, assign, body, hy, HR⟩ := HR
        have HR := Lib.hid HR
        gi_wp2
        refine ⟨rfl, ?_⟩
        refine HR.out.mono ?_
        clear HR
        rintro e W' (⟨rfl, hA, hc, -, -⟩ | ⟨rfl, hB, hc⟩)
        · have HA := Lib.hid hA
          clear hA
          gi_wp2
          rw [Exit.noGoto_normal]
          go_end0
          exact ⟨⟨_, rfl⟩, .inl ⟨_, HE.out, HA.out⟩⟩
        · have HB := Lib.hid hB
          clear hB
          gi_wp2
          rw [Exit.noGoto_normal]
          go_end0
          exact ⟨⟨_, rfl⟩, .inr ⟨_, ⟨[], by rw [List.append_nil]; exact HE.out⟩, HB.out⟩⟩
      rw [if_neg c2] at hst
      have d2 : ¬ (n0 : Int) < 2 := by omega
      by_cases c3 : s.size - p < n0
      · rw [if_pos c3] at hst
        have d3 : (s.size : Int) - (p : Int) < (n0 : Int) := by omega
        have HR : Hid (∀ nq, _) := fun nq => yield_one it hit px l s J Jx W hlx HY.out HJ.out p pre wr HT.out _ _ hst 4 rfl (((wr.alloc (.cells #[.int .i64 b0, .int .i64 0, .string ⟨#[]⟩] 57)).drewN nq).setCell ⟨wr.heap.size, 1, none⟩ (.int .i64 4))
          (Blt.of_all ((below_dn ((Below.refl _ wr).alloc (Nat.le_refl _) _) _).setCell (Nat.le_refl _) _) (Nat.le_refl _)) (((At.new wr 57 [.int .i64 b0, .int .i64 0, .string ⟨#[]⟩]).drewN nq).set_ 1 (.int .i64 4))
        have HE : Hid (pre ++ [((b0 : Int), 4, ⟨#[]⟩)] = fds s 0) := by
          have h := HT.out.1; rw [hst] at h; exact h
        clear HT HY HJ hst HP
        gi_wp2
        refine (wpIn_wide (n := 0)).2 ?_
        go_quiet (fail)
        obtain ⟨fn, tmps, assign, body, hy, HR⟩ := HR.out nq
        have HR := Lib.hid HR
        gi_wp2
        refine ⟨rfl, ?_⟩
        refine HR.out.mono ?_
        clear HR
        rintro e W' (⟨rfl, hA, hc, -, -⟩ | ⟨rfl, hB, hc⟩)
        · have HA := Lib.hid hA
          clear hA
          gi_wp2
          rw [Exit.noGoto_normal]
          go_end0
          exact ⟨⟨_, rfl⟩, .inl ⟨_, HE.out, HA.out⟩⟩
        · have HB := Lib.hid hB
          clear hB
          gi_wp2
          rw [Exit.noGoto_normal]
          go_end0
          exact ⟨⟨_, rfl⟩, .inr ⟨_, ⟨[], by rw [List.append_nil]; exact HE.out⟩, HB.out⟩⟩
      rw [if_neg c3] at hst
      have d3 : ¬ (s.size : Int) - (p : Int) < (n0 : Int) := by omega
      have HR : Hid (∀ nq, _) := fun nq => yield_one it hit px l s J Jx W hlx HY.out HJ.out p pre wr HT.out _ _ hst 0 rfl (((wr.alloc (.cells #[.int .i64 b0, .int .i64 0, .string ⟨#[]⟩] 57)).drewN nq).setCell ⟨wr.heap.size, 2, none⟩ (.string (s.extract (p + 2) (p + n0))))
        (Blt.of_all ((below_dn ((Below.refl _ wr).alloc (Nat.le_refl _) _) _).setCell (Nat.le_refl _) _) (Nat.le_refl _)) (((At.new wr 57 [.int .i64 b0, .int .i64 0, .string ⟨#[]⟩]).drewN nq).set_ 2 (.string (s.extract (p + 2) (p + n0))))
      have HE := Lib.hid HT.out.1
      have HX := Lib.hid hst
      clear HT HY HJ hst HP
      gi_wp2
      refine (wpIn_wide (n := 0)).2 ?_
      go_quiet (fail)
      obtain ⟨fn, tmps, assign, body, hy, HR⟩ := HR.out nq
      have HR := Lib.hid HR
      gi_wp2
      refine ⟨rfl, ?_⟩
      refine HR.out.mono ?_
      clear HR
      rintro e W' (⟨rfl, hA, hc, hh, hz⟩ | ⟨rfl, hB, hc⟩)
      · have HS1 : Hid (SW s px J W (p + n0) (pre ++ [((b0 : Int), 0, s.extract (p + 2) (p + n0))]) W') :=
          ⟨by rw [List.append_assoc, List.singleton_append, ← HX.out, HE.out], hA, hh, hz⟩
        clear hA hh hz
        gi_wp2
        refine ⟨⟨p + n0, _, by omega, ?_, HS1⟩, ?_⟩
        · exact int_eq (by omega)
        · simp [intOf]; omega
      · have HB := Lib.hid hB
        have HP : Hid ((pre ++ [((b0 : Int), 0, s.extract (p + 2) (p + n0))]) <+: fds s 0) := ⟨fds s (p + n0), by rw [List.append_assoc, List.singleton_append, ← HX.out, HE.out]⟩
        clear hB
        gi_wp2
        rw [Exit.noGoto_normal]
        go_end0
        exact ⟨⟨_, rfl⟩, .inr ⟨_, HP.out, HB.out⟩⟩
    · have HE : Hid (J (fds s 0) wr) := by
        have h := HT.out.1
        rw [fds_end s p (by omega), List.append_nil] at h
        rw [← h]; exact HT.out.2.1
      clear HT HY HJ
      gi_wp2
      rw [Exit.noGoto_normal]
      go_end0
      exact ⟨⟨_, rfl⟩, .inl ⟨_, rfl, HE.out⟩⟩
end Go.Proofs.YtbbkinldfpphdaaGreatDoor
