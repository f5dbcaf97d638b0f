/- area.Walk: the items of an area, as a list. -/
import Derived.Test.YtbbkinldfpphdaaGreatDoorA2
import Derived.Test.YtbbkinldfpphdaaGreatDoorCi
namespace Go.Proofs.YtbbkinldfpphdaaGreatDoor
open Go.RowKit Pl Go.Shelf
attribute [local go_sem] Oper.semAt_some

def itemC (x : Fd) : List Value := [.int .i64 x.1, .string x.2.2]
def itemsC (l : List Fd) : List Value := l.flatMap itemC
theorem itemsC_snoc (l : List Fd) (x : Fd) : itemsC (l ++ [x]) = itemsC l ++ itemC x := by simp [itemsC]
theorem itemsC_at : ∀ (l : List Fd) (i : Nat) (x : Fd), l[i]? = some x → (itemsC l)[i * 2]? = some (.int .i64 x.1) ∧ (itemsC l)[i * 2 + 1]? = some (.string x.2.2) := by
  intro l
  induction l with
  | nil => intro i x h; simp at h
  | cons y l ih =>
    intro i x h
    cases i with
    | zero => simp at h; subst h; exact ⟨rfl, rfl⟩
    | succ i =>
      have := ih i x (by simpa using h)
      rw [show (i + 1) * 2 = i * 2 + 1 + 1 by omega]
      simpa [itemsC, itemC] using this
/-- The rounds so far went well. -/
def IW (w : World) (s : ByteArray) (pre : List Fd) (W : World) : Prop :=
  Boxed W (w.heap.size + 1 + 1) 9 (.string s) ∧ (∃ v, Boxed W w.heap.size 31 v ∧ W.ownsRow w.heap.size 36 2 v pre.length (itemsC pre)) ∧ (∃ v, Boxed W (w.heap.size + 1) 32 (.int .i64 v)) ∧ Below w.heap.size w W ∧ (∀ y ∈ pre, badF y = false)
/-- A round went wrong. -/
def JW (w : World) (c : Code) (pre : List Fd) (W : World) : Prop :=
  c = .ret ∧ ∃ p x, pre = p ++ [x] ∧ (∀ y ∈ p, badF y = false) ∧ badF x = true ∧ Boxed W w.heap.size 31 (.slice none 0 0) ∧ Boxed W (w.heap.size + 1) 32 (.int .i64 x.2.1) ∧ Below w.heap.size w W
theorem boxed_blt {t : TypeId} {B b : Nat} {u : TypeId} {v : Value} {W W' : World} (h : Boxed W b u v) (hb : Blt t B W W') (hl : b < B) : Boxed W' b u v := (hb.below.block b hl).trans h
theorem owns_blt {e : TypeId} {B base n size : Nat} {v : Value} {xs : List Value} {W W' : World} (h : W.ownsRow base e size v n xs) (hb : Blt e B W W') : W'.ownsRow base e size v n xs := by
  refine ⟨h.1, ?_⟩
  rcases h.2 with h1 | ⟨g, cap, cur, h1, h2, h3, h4⟩
  · exact .inl h1
  · exact .inr ⟨g, cap, cur, h1, h2, hb.keep g cur h3, h4⟩
theorem iw_low (w : World) (s : ByteArray) (B : Nat) (hB : w.heap.size + 3 ≤ B) : LowT 36 B (IW w s) := by
  rintro _ A C ⟨h0, ⟨v, h1, h2⟩, ⟨c, h3⟩, h4, h5⟩ hb
  exact ⟨boxed_blt h0 hb (by omega), ⟨v, boxed_blt h1 hb (by omega), owns_blt h2 hb⟩, ⟨c, boxed_blt h3 hb (by omega)⟩, h4.trans (hb.below.mono (by omega)), h5⟩
theorem jw_low (w : World) (c : Code) (B : Nat) (hB : w.heap.size + 2 ≤ B) : LowT 36 B (JW w c) := by
  rintro s A C ⟨h0, p, x, h1, h2, h3, h4, h5, h6⟩ hb
  exact ⟨h0, p, x, h1, h2, h3, boxed_blt h4 hb (by omega), boxed_blt h5 hb (by omega), h6.trans (hb.below.mono (by omega))⟩
theorem owns_block {e : TypeId} {base n size g : Nat} {v : Value} {xs : List Value} {W : World} (h : W.ownsRow base e size v n xs) (hv : v.ownBlock = some g) : ∃ cur, W.heap[g]? = some (Obj.cells cur e (0, 0)) := by
  rcases h.2 with ⟨rfl, _⟩ | ⟨g', cap, cur, rfl, _, h3, _⟩
  · simp [Value.ownBlock] at hv
  · simp [Value.ownBlock] at hv; subst hv; exact ⟨cur, h3⟩
theorem owns_form {e : TypeId} {base n size : Nat} {v : Value} {xs : List Value} {W : World} (h : W.ownsRow base e size v n xs) : ∃ b k c, v = .slice b k c := by
  rcases h.2 with ⟨rfl, _⟩ | ⟨g', cap, cur, rfl, _⟩
  · exact ⟨_, _, _, rfl⟩
  · exact ⟨_, _, _, rfl⟩
theorem cells_type {cs cs' : Array Value} {t t' : TypeId} (h : (some (Obj.cells cs t (0, 0)) : Option Obj) = some (Obj.cells cs' t' (0, 0))) : t = t' := by injection h with h; injection h
/-- Behind an append to the slice in the cell. -/
theorem iw_next (w : World) (s : ByteArray) (pre : List Fd) (x : Fd) (W W2 W4 : World) (v v' : Value) (hx : badF x = false) (hv : Boxed W w.heap.size 31 v) (hown : W.ownsRow w.heap.size 36 2 v pre.length (itemsC pre))
    (hI : IW w s pre W) (hb : Below W.heap.size W W2) (hg : W2.grownBy W4 v.ownBlock) (hown' : W4.ownsRow w.heap.size 36 2 v' (pre.length + 1) (itemsC pre ++ itemC x)) (B : Nat) (hB : B = w.heap.size + 3) :
    Boxed W4 w.heap.size 31 v ∧ AbvT 36 B W (W4.setCell ⟨w.heap.size, 0, none⟩ v') ∧ Held (fun k => k = w.heap.size + 1 + 1) W (W4.setCell ⟨w.heap.size, 0, none⟩ v') ∧ IW w s (pre ++ [x]) (W4.setCell ⟨w.heap.size, 0, none⟩ v') := by
  subst hB
  obtain ⟨hs, -, ⟨e0, he⟩, hbl, hgood⟩ := hI
  have far : ∀ k, k < W.heap.size → (∀ cs : Array Value, W.heap[k]? ≠ some (Obj.cells cs 36 (0, 0))) → W4.heap[k]? = W.heap[k]? := fun k hk hn => by
    refine (hg.block k (Nat.lt_of_lt_of_le hk hb.size) fun e => ?_).trans (hb.block k hk)
    obtain ⟨cur, hc⟩ := owns_block hown e.symm
    exact hn cur hc
  have nb : ∀ {b : Nat} {t : TypeId} {u : Value}, Boxed W b t u → t ≠ 36 → ∀ cs : Array Value, W.heap[b]? ≠ some (Obj.cells cs 36 (0, 0)) := fun hbx ht cs e => ht (cells_type ((show W.heap[_]? = _ from hbx).symm.trans e))
  have hv4 : Boxed W4 w.heap.size 31 v := (far _ hv.lt (nb hv (by decide))).trans hv
  have fars : ∀ k, k < W.heap.size → k ≠ w.heap.size → (∀ cs : Array Value, W.heap[k]? ≠ some (Obj.cells cs 36 (0, 0))) → (W4.setCell ⟨w.heap.size, 0, none⟩ v').heap[k]? = W.heap[k]? := fun k hk hne hn => by
    rw [Below.heap_setCell _ _ _ _ hne]; exact far k hk hn
  have hz : W.heap.size ≤ W4.heap.size := Nat.le_trans hb.size hg.size
  refine ⟨hv4, ⟨by simpa [World.setCell] using hz, fun k hk hk2 hn => fars k hk2 (by omega) hn⟩, ?_, ?_⟩
  · rintro k rfl
    exact fars _ hs.lt (by omega) (nb hs (by decide))
  · refine ⟨(fars _ hs.lt (by omega) (nb hs (by decide))).trans hs, ⟨v', hv4.set v', ?_⟩, ⟨e0, (fars _ he.lt (by omega) (nb he (by decide))).trans he⟩, ?_, ?_⟩
    · rw [List.length_append, itemsC_snoc]
      refine hown'.kept (grownBy_setCell' _ _ _) ?_
      cases hv' : v'.ownBlock with
      | none => exact .inl rfl
      | some g =>
        refine .inr fun e => ?_
        have e : g = w.heap.size := by simpa using e
        subst e
        obtain ⟨cur, hc⟩ := owns_block hown' hv'
        exact absurd (cells_type ((show W4.heap[_]? = _ from hv4).symm.trans hc)) (by decide)
    · refine (hbl.trans ((hb.mono hbl.size).grown hg (Nat.le_trans hbl.size hb.size) (fun k hk => ?_))).setCell (p := ⟨_, 0, none⟩) (Nat.le_refl _) _
      rcases hown.2 with ⟨rfl, _⟩ | ⟨g', cap, cur, rfl, hge, _⟩
      · simp [Value.ownBlock] at hk
      · simp [Value.ownBlock] at hk; omega
    · intro y hy
      rcases List.mem_append.1 hy with h | h
      · exact hgood y h
      · simp at h; subst h; exact hx
theorem wpIn_region_anyV {F : Fence} {n : Nat} {P : Program} {ops : Array Oper} {Q : Exit → Act → World → Prop} {id : Nat} {a : Act} {w : World} (V : World) (hV : w.drew = V) (hm : P.follows .mixedOrders = true)
    (h : wpAnyIn F n P .any ops Q ops.size (Array.replicate ops.size false) a V) : (Code.region id ops true).wpIn F n P Q a w := by
  subst hV; exact wpIn_region_any hm h
theorem anyIn_step {F : Fence} {n : Nat} {P : Program} {md : Region.Mode} {ops : Array Oper} {Q : Exit → Act → World → Prop} {fuel : Nat} {listed : Array Bool} {a : Act} {w : World} (l : List Nat) (hl : Region.ready md ops listed = l) (hne : l ≠ [])
    (h : ∀ i ∈ l, wpOpIn F n P ops Q i (wpAnyIn F n P md ops Q fuel (listed.setIfInBounds i true)) a w) : wpAnyIn F n P md ops Q (fuel + 1) listed a w := by
  subst hl; exact ⟨fun h => absurd h hne, h⟩
theorem opIn_val {F : Fence} {n : Nat} {P : Program} {ops : Array Oper} {Q : Exit → Act → World → Prop} {i : Nat} {K : Act → World → Prop} {a : Act} {w : World} {o : Oper} {v : Value} (hi : ops[i]? = some o) (hw : Region.wanted o (yielded ops a.tmps) = true)
    (hab : o.about P w a.eval = none) (nd : ∀ c, o.op ≠ .defer c) (hr : (execOp a.eval o).run P w = .ok (.value v) w) (h : K (a.put o.dst v) w) : wpOpIn F n P ops Q i K a w := by
  unfold wpOpIn
  simp only [hi, hw, if_true]
  refine ⟨fun f hf => by rw [hab] at hf; simp at hf, ?_⟩
  rw [Oper.semAt_plain F _ _ nd, hr]; exact h
theorem opIn_skip {F : Fence} {n : Nat} {P : Program} {ops : Array Oper} {Q : Exit → Act → World → Prop} {i : Nat} {K : Act → World → Prop} {a : Act} {w w' : World} {o : Oper} (hi : ops[i]? = some o) (hw : Region.wanted o (yielded ops a.tmps) = true)
    (hab : o.about P w a.eval = none) (nd : ∀ c, o.op ≠ .defer c) (hr : (execOp a.eval o).run P w = .ok .skip w') (h : K (a.put o.dst undef) w') : wpOpIn F n P ops Q i K a w := by
  unfold wpOpIn
  simp only [hi, hw, if_true]
  refine ⟨fun f hf => by rw [hab] at hf; simp at hf, ?_⟩
  rw [Oper.semAt_plain F _ _ nd, hr]; exact h
/-- Behind a round that went wrong. -/
theorem iw_stop (w : World) (s : ByteArray) (pre : List Fd) (x : Fd) (W V : World) (hx : badF x = true) (hI : IW w s pre W) (hb : Below W.heap.size W V) (B : Nat) (hB : B = w.heap.size + 3) {A : Act} :
    bodyIT 36 B (fun k => k = w.heap.size + 1 + 1) (IW w s) (JW w) (pre ++ [x]) W .ret A ((V.setCell ⟨w.heap.size, 0, none⟩ (.slice none 0 0)).setCell ⟨w.heap.size + 1, 0, none⟩ (.int .i64 x.2.1)) := by
  subst hB
  obtain ⟨hs, ⟨v, hv, -⟩, ⟨e0, he⟩, hbl, hgood⟩ := hI
  have far : ∀ k, k < W.heap.size → k ≠ w.heap.size → k ≠ w.heap.size + 1 → ((V.setCell ⟨w.heap.size, 0, none⟩ (.slice none 0 0)).setCell ⟨w.heap.size + 1, 0, none⟩ (.int .i64 x.2.1)).heap[k]? = W.heap[k]? := fun k hk h1 h2 => by
    rw [Below.heap_setCell _ _ _ _ h2, Below.heap_setCell _ _ _ _ h1]; exact hb.block k hk
  refine ⟨⟨by simpa [World.setCell] using hb.size, fun k hk hk2 _ => far k hk2 (by omega) (by omega)⟩, ?_, rfl, pre, x, rfl, hgood, hx, ?_, ?_, ?_⟩
  · rintro k rfl
    exact far _ hs.lt (by omega) (by omega)
  · exact ((show Boxed V _ _ _ from (hb.block _ hv.lt).trans hv).set _).kept (grownBy_setCell' _ _ _) (by simp)
  · exact ((show Boxed V _ _ _ from (hb.block _ he.lt).trans he).kept (grownBy_setCell' V w.heap.size (.slice none 0 0)) (by simp)).set _
  · exact ((hbl.trans (hb.mono hbl.size)).setCell (p := ⟨w.heap.size, 0, none⟩) (Nat.le_refl _) _).setCell (p := ⟨w.heap.size + 1, 0, none⟩) (by simp) _

theorem items_of {base : Nat} {W V : World} {v : Value} {l : List Fd} (h : W.ownsRow base 36 2 v l.length (itemsC l)) (hb : ∀ g, v.ownBlock = some g → V.heap[g]? = W.heap[g]?) : Items V v (l.map itF) := by
  rcases h.2 with ⟨rfl, hn⟩ | ⟨g, cap, cur, rfl, _⟩
  · refine .inl ⟨?_, rfl⟩
    have : l = [] := List.length_eq_zero_iff.1 hn
    rw [this]; rfl
  · refine .inr ⟨g, cap, by rw [List.length_map], fun i x hx => ?_⟩
    rw [List.getElem?_map] at hx
    obtain ⟨y, hy, rfl⟩ := Option.map_eq_some_iff.1 hx
    obtain ⟨k1, k2⟩ := itemsC_at l i y hy
    have c1 := h.cells (g := g) rfl _ _ k1
    have c2 := h.cells (g := g) rfl _ _ k2
    have e : ∀ a : Addr, a.block = g → V.cell? a = W.cell? a := fun a ha => World.cell?_of_block (by rw [ha]; exact hb g rfl)
    refine ⟨?_, ?_⟩
    · rw [e _ rfl]; rw [add_at] at c1; exact c1
    · rw [e _ rfl]; rw [add_at] at c2; exact c2

/-- A slice is no longer than its room. -/
def CapOk (v : Value) : Prop := ∀ b n c, v = .slice b n c → n ≤ c
theorem cap_nil : CapOk (.slice none 0 0) := fun b n c h => by injection h with _ h2 h3; omega
theorem cap_own {W : World} {base n size : Nat} {e : TypeId} {v : Value} {xs : List Value} (h : W.ownsRow base e size v n xs) : CapOk v := by
  intro b n' c hv
  rcases h.2 with ⟨h1, _⟩ | ⟨g, cap, cur, h1, _, _, h4⟩
  · rw [h1] at hv; exact cap_nil b n' c hv
  · rw [h1] at hv
    injection hv with _ h2 h3
    subst h2 h3
    exact h4.1

set_option maxRecDepth 20000 in
set_option maxHeartbeats 4000000 in
theorem walk_full (s : ByteArray) (w : World) (hs : s.size ≤ 9223372036854775807) :
    Calls Tryz.prog 6 #[.string s] w fun e w' => ∃ v, e = .returned (.tuple #[v, .int .i64 (walkR s).2]) ∧ Items w' v (walkR s).1 ∧ Below w.heap.size w w' ∧ CapOk v := by
  refine callsIn_wide (n := 0).1 ?_
  refine callsIn_of_wp_marks Tryz.func6 rfl trivial ?_
  simp only [Tryz.ntmps6, List.size_toArray, List.length_cons, List.length_nil, Nat.reduceAdd, Nat.reduceSub, Array.replicate_succ, Array.replicate_zero, List.push_toArray, List.append_toArray, List.nil_append, List.cons_append]
  have hmod : (s.size : Int).tmod 4 = ((s.size % 4 : Nat) : Int) := by rw [Int.tmod_eq_emod_of_nonneg (Int.natCast_nonneg _)]; omega
  by_cases h1 : 40 < s.size
  · have c1 : (40 : Int) < (s.size : Int) := by omega
    have hR : walkR s = ([], 6) := by unfold walkR; rw [if_pos h1]
    rw [hR]
    clear hR
    gi_wp2
    refine ⟨_, by simp [results, Tryz.results6, asAddr, go_sem], _, rfl, .inl ⟨rfl, rfl⟩, ?_, cap_nil⟩
    exact ((Below.refl _ w).alloc (Nat.le_refl _) _).alloc (by simp) _
  have c1 : ¬ (40 : Int) < (s.size : Int) := by omega
  by_cases h2 : s.size % 4 = 0
  case neg =>
    have hR : walkR s = ([], 5) := by unfold walkR; rw [if_neg h1, if_pos h2]
    rw [hR]
    obtain ⟨m, hm⟩ : ∃ m, s.size % 4 = m := ⟨_, rfl⟩
    rw [hm] at hmod h2
    have c2 : ¬ (m : Int) = 0 := by omega
    clear hR hm
    gi_wp2
    refine ⟨_, by simp [results, Tryz.results6, asAddr, go_sem], _, rfl, .inl ⟨rfl, rfl⟩, ?_, cap_nil⟩
    exact ((Below.refl _ w).alloc (Nat.le_refl _) _).alloc (by simp) _
  rw [h2] at hmod
  have hmod : (s.size : Int).tmod 4 = 0 := hmod
  have hR : walkR s = match (fds s 0).find? badF with
    | some x => ([], x.2.1)
    | none => ((fds s 0).map itF, 0) := by unfold walkR; rw [if_neg h1, if_neg (by omega)]; rfl
  have hR := Lib.hid hR
  obtain ⟨i0, hi, hz0, hz1, hz2⟩ := info_parts info_item
  gi_wp2_with (refine ⟨trivial, rfl, ?_⟩; gi_at_call 17; refine (awalk_fn _ _).mono ?_; rintro e w' ⟨rfl, rfl⟩)
  obtain ⟨W0, hW0⟩ : ∃ W0, (((w.alloc (.cells #[.slice none 0 0] 31)).alloc (.cells #[.int .i64 0] 32)).alloc (.cells #[.string s] 9)) = W0 := ⟨_, rfl⟩
  have hz0' : W0.heap.size = w.heap.size + 3 := by rw [← hW0]; simp
  have hb0 : Below w.heap.size w W0 := by rw [← hW0]; exact (((Below.refl _ w).alloc (Nat.le_refl _) _).alloc (by simp) _).alloc (by simp; omega) _
  have hl0 : Boxed W0 w.heap.size 31 (.slice none 0 0) := by rw [← hW0]; exact ((Boxed.new w _ _).alloc _).alloc _
  have he0 : Boxed W0 (w.heap.size + 1) 32 (.int .i64 0) := by
    rw [← hW0]; have := (Boxed.new (w.alloc (.cells #[.slice none 0 0] 31)) 32 (.int .i64 0)).alloc (.cells #[.string s] 9); simpa using this
  have hx0 : Boxed W0 (w.heap.size + 1 + 1) 9 (.string s) := by
    rw [← hW0]; have := Boxed.new ((w.alloc (.cells #[.slice none 0 0] 31)).alloc (.cells #[.int .i64 0] 32)) 9 (.string s); simpa using this
  rw [hW0]
  have hN : (fds s 0).length ≤ 40 := Nat.le_trans (fds_length s) (by omega)
  clear hW0
  refine wpIn_range_iterT (t := 36) (gf := 36) (lb := #[.pointer (some ⟨w.heap.size + 1 + 1, 0, none⟩)]) rfl (enters_of Tryz.func36 (by kernel_rfl) rfl)
    (awalk_iter 36 (w.heap.size + 1 + 1) s W0 hx0 (by omega) (by decide)) (fun k hk => by subst hk; omega) (fun _ => rfl)
    (IW w s) (JW w) (iw_low w s _ (by omega)) (fun c => jw_low w c _ (by omega))
    ⟨hx0, ⟨_, hl0, World.ownsRow_nil _ _ _ _⟩, ⟨0, he0⟩, hb0, by simp⟩
    (fun x => .cells #[.int .i64 x.1, .int .i64 x.2.1, .string x.2.2] 57)
    (fun x n => { tmps := #[.string s, undef, .pointer (some ⟨w.heap.size, 0, none⟩), .pointer (some ⟨w.heap.size + 1, 0, none⟩), .pointer (some ⟨n, 0, none⟩), undef, .bool false, .string s, .int .i64 s.size, .bool false, .bool false, .string s, .int .i64 s.size, .int .i64 0, .bool false, .string s, .func (.func 36) #[] #[.pointer (some ⟨w.heap.size + 1 + 1, 0, none⟩)], .agg #[.int .i64 x.1, .int .i64 x.2.1, .string x.2.2], undef, undef, undef, undef, undef, undef, undef, undef, undef, undef, undef, undef, undef, undef, undef, undef, undef, undef, undef, undef, undef, undef, undef, undef], defers := [] }) ?assign ?body ?done ?stop
  case assign =>
    intro l x W K hK
    clear hmod hl0 he0 hx0 hb0
    simp only [encF]
    gi_wp2
    exact hK
  case body =>
    rintro l pre x n W hI hlen hn hsz hx
    obtain ⟨-, ⟨v, hv, hown⟩, ⟨e0, he⟩, hb, hg⟩ := id hI
    have HI := Lib.hid hI
    clear hI
    obtain ⟨k, c, y⟩ := x
    have hX : At W n 57 [.int .i64 k, .int .i64 c, .string y] := hx
    have x0 : W.cell? ⟨n, 0, none⟩ = some (.int .i64 k) := by rw [hX.cell]; rfl
    have x1 : W.cell? ⟨n, 1, none⟩ = some (.int .i64 c) := by rw [hX.cell]; rfl
    have x2 : W.cell? ⟨n, 2, none⟩ = some (.string y) := by rw [hX.cell]; rfl
    have cv := hv.cell
    have fv := hv.frozen
    have ce := he.cell
    have lv : w.heap.size < n + 1 := by omega
    have lv1 : w.heap.size + 1 < n + 1 := by omega
    have lv2 : n < n + 1 := by omega
    have nv : ¬ w.heap.size = n + 1 := by omega
    have nv1 : ¬ w.heap.size + 1 = n + 1 := by omega
    have nv2 : ¬ n = n + 1 := by omega
    have fe := he.frozen
    have HV := Lib.hid hv
    have HO := Lib.hid hown
    have HE := Lib.hid he
    have HB := Lib.hid hb
    have HX := Lib.hid hX
    clear hv hown he hb hX hx hmod hl0 he0 hx0 hb0
    have hye : y.toList = y.data.toList := ByteArray.toList_eq y
    have go : ∀ (hbad : badF (k, c, y) = false) (A : Act) (W4 : World) (v' : Value), W4.ownsRow w.heap.size 36 2 v' (pre.length + 1) (itemsC pre ++ [.int .i64 k, .string y]) →
        ((W.alloc (.cells #[.int .i64 k, .int .i64 c, .string ⟨#[]⟩] 57)).alloc (.cells #[.int .i64 k, .string y] 36)).grownBy W4 v.ownBlock →
        Boxed W4 w.heap.size 31 v ∧ bodyIT 36 W0.heap.size (fun k => k = w.heap.size + 1 + 1) (IW w s) (JW w) (pre ++ [(k, c, y)]) W .normal A (W4.setCell ⟨w.heap.size, 0, none⟩ v') := by
      intro hbad A W4 v' h1 h2
      exact iw_next w s pre (k, c, y) W _ W4 v v' hbad HV.out HO.out HI.out (((Below.refl _ W).alloc (Nat.le_refl _) _).alloc (by simp) _) h2 h1 _ hz0'
    have HG := Lib.hid go
    obtain ⟨vb, vn, vc, rfl⟩ := owns_form HO.out
    have hlen2 : pre.length ≤ 40 := by omega
    clear go hlen
    by_cases hy : y.toList = []
    · by_cases hc : c = 0
      · have HBad : Hid (badF (k, c, y) = false) := by subst hc; show (0 != 0 && y.data.toList.isEmpty) = false; rfl
        clear hye
        subst hc
        gi_wp2_with (gi_at_builtin; refine wpListIn_append_own _ rfl _ _ 31 rfl w.heap.size 36 i0 (.agg #[.int .i64 0, .string ⟨#[]⟩]) 2 24 Tryz.underlying31 hi hz0 hz1 hz2 rfl (by decide) _ _ _ rfl ((HO.out.alloc _).alloc _) ⟨n + 1 + 1, 0, none⟩ 1 1 [.int .i64 k, .string y] rfl rfl ?c1 ?c2 ?c3 ?c4 ?c5 ?_)
        case c1 =>
          intro j u hu
          have hA := At.of_new (W.alloc (.cells #[.int .i64 k, .int .i64 (0 : Nat), .string ⟨#[]⟩] 57)) 36 #[.int .i64 k, .string y]
          rw [World.size_alloc, hsz] at hA
          match j, hu with
          | 0, hu => simp at hu; subst hu; exact hA.cell 0
          | 1, hu => simp at hu; subst hu; exact hA.cell 1
          | _ + 2, hu => simp at hu
        case c2 => intro u hu; simp at hu; rcases hu with rfl | rfl <;> rfl
        case c3 => exact (by simp only [maxLen]; omega)
        case c4 => omega
        case c5 => have := HB.out.size; simp; omega
        intro v' w4 hown' hgrow _
        have HR := Lib.hid (fun A => HG.out HBad.out A w4 v' hown' hgrow)
        obtain ⟨b', n', q', rfl⟩ := owns_form hown'
        have hb4 := (HR.out ⟨#[], []⟩).1
        have hc4 := hb4.cell
        have hf4 := hb4.frozen
        clear hb4
        clear HG hown' hgrow
        gi_wp2_with fail
        exact (HR.out _).2
      · have c3 : ¬ (c : Int) = 0 := by omega
        have HBd : Hid (badF (k, c, y) = true) := by rw [hye] at hy; show (c != 0 && y.data.toList.isEmpty) = true; rw [hy]; simp [hc]
        clear hye
        gi_wp2_with fail
        have FIN : ∀ (A : Act) (V : World), Below W.heap.size W V → bodyIT 36 (w.heap.size + 3) (fun k => k = w.heap.size + 1 + 1) (IW w s) (JW w) (pre ++ [(k, c, y)]) W .ret A ((V.setCell ⟨w.heap.size, 0, none⟩ (.slice none 0 0)).setCell ⟨w.heap.size + 1, 0, none⟩ (.int .i64 c)) :=
          fun A V hV => iw_stop w s pre (k, c, y) W V HBd.out HI.out hV _ rfl
        obtain ⟨V0, hV0⟩ : ∃ V, (W.alloc (.cells #[.int .i64 k, .int .i64 c, .string ⟨#[]⟩] 57)).drew = V := ⟨_, rfl⟩
        have HV0 : Below W.heap.size W V0 := by rw [← hV0]; exact ((Below.refl _ W).alloc (Nat.le_refl _) _).drew
        have v1 : V0.cell? ⟨n, 1, none⟩ = some (.int .i64 c) := (World.cell?_of_block (HV0.block n (by omega))).trans x1
        have vl := (show Boxed V0 _ _ _ from (HV0.block _ HV.out.lt).trans HV.out).cell
        have vf := (show Boxed V0 _ _ _ from (HV0.block _ HV.out.lt).trans HV.out).frozen
        have ve := (show Boxed V0 _ _ _ from (HV0.block _ HE.out.lt).trans HE.out).cell
        have vg := (show Boxed V0 _ _ _ from (HV0.block _ HE.out.lt).trans HE.out).frozen
        have nv3 : ¬ n = w.heap.size := by omega
        have nv4 : ¬ w.heap.size = n := by omega
        have HV0 := Lib.hid HV0
        refine wpIn_region_anyV V0 hV0 (by kernel_rfl) ?_
        clear hV0 x0 x1 x2 cv fv ce fe
        refine anyIn_step [0, 2] (by kernel_rfl) (by simp) (fun i hi => ?_)
        have hi : i = 0 ∨ i = 2 := by simpa using hi
        rcases hi with rfl | rfl
        · refine opIn_val (v := ?_) rfl rfl rfl (fun c h => by cases h) ?_ ?_
          rotate_left
          · go_simp
            exact rfl
          simp only [Act.put, List.setIfInBounds_toArray]
          refine anyIn_step [1, 2] (by kernel_rfl) (by simp) (fun i hi => ?_)
          have hi : i = 1 ∨ i = 2 := by simpa using hi
          rcases hi with rfl | rfl
          · refine opIn_val (v := ?_) rfl rfl rfl (fun c h => by cases h) ?_ ?_
            rotate_left
            · go_simp
              exact rfl
            simp only [Act.put]
            refine anyIn_step [2] (by kernel_rfl) (by simp) (fun i hi => ?_)
            obtain rfl : i = 2 := by simpa using hi
            clear hi
            refine opIn_skip (w' := ?_) rfl rfl rfl (fun c h => by cases h) ?_ ?_
            rotate_left
            · go_simp
              exact rfl
            simp only [Act.put]
            refine anyIn_step [3] (by kernel_rfl) (by simp) (fun i hi => ?_)
            obtain rfl : i = 3 := by simpa using hi
            clear hi
            refine opIn_skip (w' := ?_) rfl rfl rfl (fun c h => by cases h) ?_ ?_
            rotate_left
            · go_simp
              exact rfl
            simp only [Act.put]
            refine ⟨by kernel_rfl, ?_⟩
            gi_wp2_with fail
            exact FIN _ _ HV0.out
          · refine opIn_skip (w' := ?_) rfl rfl rfl (fun c h => by cases h) ?_ ?_
            rotate_left
            · go_simp
              exact rfl
            simp only [Act.put]
            refine anyIn_step [1] (by kernel_rfl) (by simp) (fun i hi => ?_)
            obtain rfl : i = 1 := by simpa using hi
            clear hi
            refine opIn_val (v := ?_) rfl rfl rfl (fun c h => by cases h) ?_ ?_
            rotate_left
            · go_simp
              exact rfl
            simp only [Act.put]
            refine anyIn_step [3] (by kernel_rfl) (by simp) (fun i hi => ?_)
            obtain rfl : i = 3 := by simpa using hi
            clear hi
            refine opIn_skip (w' := ?_) rfl rfl rfl (fun c h => by cases h) ?_ ?_
            rotate_left
            · go_simp
              exact rfl
            simp only [Act.put]
            refine ⟨by kernel_rfl, ?_⟩
            gi_wp2_with fail
            exact FIN _ _ HV0.out
        · refine opIn_skip (w' := ?_) rfl rfl rfl (fun c h => by cases h) ?_ ?_
          rotate_left
          · go_simp
            exact rfl
          simp only [Act.put]
          refine anyIn_step [0] (by kernel_rfl) (by simp) (fun i hi => ?_)
          obtain rfl : i = 0 := by simpa using hi
          clear hi
          refine opIn_val (v := ?_) rfl rfl rfl (fun c h => by cases h) ?_ ?_
          rotate_left
          · go_simp
            exact rfl
          simp only [Act.put, List.setIfInBounds_toArray]
          refine anyIn_step [1] (by kernel_rfl) (by simp) (fun i hi => ?_)
          obtain rfl : i = 1 := by simpa using hi
          clear hi
          refine opIn_val (v := ?_) rfl rfl rfl (fun c h => by cases h) ?_ ?_
          rotate_left
          · go_simp
            exact rfl
          simp only [Act.put]
          refine anyIn_step [3] (by kernel_rfl) (by simp) (fun i hi => ?_)
          obtain rfl : i = 3 := by simpa using hi
          clear hi
          refine opIn_skip (w' := ?_) rfl rfl rfl (fun c h => by cases h) ?_ ?_
          rotate_left
          · go_simp
            exact rfl
          simp only [Act.put]
          refine ⟨by kernel_rfl, ?_⟩
          gi_wp2_with fail
          exact FIN _ _ HV0.out
    · have HBad : Hid (badF (k, c, y) = false) := by rw [hye] at hy; show (c != 0 && y.data.toList.isEmpty) = false; rw [List.isEmpty_eq_false_iff.2 hy, Bool.and_false]
      clear hye
      by_cases hc : c = 0
      · subst hc
        gi_wp2_with (gi_at_builtin; refine wpListIn_append_own _ rfl _ _ 31 rfl w.heap.size 36 i0 (.agg #[.int .i64 0, .string ⟨#[]⟩]) 2 24 Tryz.underlying31 hi hz0 hz1 hz2 rfl (by decide) _ _ _ rfl ((HO.out.alloc _).alloc _) ⟨n + 1 + 1, 0, none⟩ 1 1 [.int .i64 k, .string y] rfl rfl ?c1 ?c2 ?c3 ?c4 ?c5 ?_)
        case c1 =>
          intro j u hu
          have hA := At.of_new (W.alloc (.cells #[.int .i64 k, .int .i64 (0 : Nat), .string ⟨#[]⟩] 57)) 36 #[.int .i64 k, .string y]
          rw [World.size_alloc, hsz] at hA
          match j, hu with
          | 0, hu => simp at hu; subst hu; exact hA.cell 0
          | 1, hu => simp at hu; subst hu; exact hA.cell 1
          | _ + 2, hu => simp at hu
        case c2 => intro u hu; simp at hu; rcases hu with rfl | rfl <;> rfl
        case c3 => exact (by simp only [maxLen]; omega)
        case c4 => omega
        case c5 => have := HB.out.size; simp; omega
        intro v' w4 hown' hgrow _
        have HR := Lib.hid (fun A => HG.out HBad.out A w4 v' hown' hgrow)
        obtain ⟨b', n', q', rfl⟩ := owns_form hown'
        have hb4 := (HR.out ⟨#[], []⟩).1
        have hc4 := hb4.cell
        have hf4 := hb4.frozen
        clear hb4
        clear HG hown' hgrow
        gi_wp2_with fail
        exact (HR.out _).2
      · have c3 : ¬ (c : Int) = 0 := by omega
        gi_wp2_with (gi_at_builtin; refine wpListIn_append_own _ rfl _ _ 31 rfl w.heap.size 36 i0 (.agg #[.int .i64 0, .string ⟨#[]⟩]) 2 24 Tryz.underlying31 hi hz0 hz1 hz2 rfl (by decide) _ _ _ rfl ((HO.out.alloc _).alloc _) ⟨n + 1 + 1, 0, none⟩ 1 1 [.int .i64 k, .string y] rfl rfl ?c1 ?c2 ?c3 ?c4 ?c5 ?_)
        case c1 =>
          intro j u hu
          have hA := At.of_new (W.alloc (.cells #[.int .i64 k, .int .i64 c, .string ⟨#[]⟩] 57)) 36 #[.int .i64 k, .string y]
          rw [World.size_alloc, hsz] at hA
          match j, hu with
          | 0, hu => simp at hu; subst hu; exact hA.cell 0
          | 1, hu => simp at hu; subst hu; exact hA.cell 1
          | _ + 2, hu => simp at hu
        case c2 => intro u hu; simp at hu; rcases hu with rfl | rfl <;> rfl
        case c3 => exact (by simp only [maxLen]; omega)
        case c4 => omega
        case c5 => have := HB.out.size; simp; omega
        intro v' w4 hown' hgrow _
        have HR := Lib.hid (fun A => HG.out HBad.out A w4 v' hown' hgrow)
        obtain ⟨b', n', q', rfl⟩ := owns_form hown'
        have hb4 := (HR.out ⟨#[], []⟩).1
        have hc4 := hb4.cell
        have hf4 := hb4.frozen
        clear hb4
        clear HG hown' hgrow
        gi_wp2_with fail
        exact (HR.out _).2
  case done =>
    rintro D xs W hD rfl ⟨-, ⟨v, hv, hown⟩, ⟨e0, he⟩, hb, hg⟩ hK
    have hD2 := (Array.getElem?_eq_some_iff.1 hK).1
    have nD : ¬ w.heap.size = D := by omega
    have nD1 : ¬ w.heap.size + 1 = D := by omega
    have lD : w.heap.size < W.heap.size := hv.lt
    have lD1 : w.heap.size + 1 < W.heap.size := he.lt
    obtain ⟨vb, vn, vc, rfl⟩ := owns_form hown
    have cv := hv.cell
    have fv := hv.frozen
    have ce := he.cell
    have fe := he.frozen
    have HV := Lib.hid hv
    have HO := Lib.hid hown
    have HE := Lib.hid he
    have HB := Lib.hid hb
    have HK := Lib.hid hK
    clear hv hown he hb hK hmod hl0 he0 hx0 hb0
    gi_wp2_with fail
    show bodyPostM _ _ _ _ _ _ _ _
    have hR2 : walkR s = ((fds s 0).map itF, 0) := by rw [hR.out, List.find?_eq_none.2 (fun y hy => by rw [hg y hy]; simp)]
    rw [hR2]
    obtain ⟨V, hV⟩ : ∃ V, (W.setCell ⟨w.heap.size, 0, none⟩ (.slice vb vn vc)).setCell ⟨w.heap.size + 1, 0, none⟩ (.int .i64 0) = V := ⟨_, rfl⟩
    rw [hV]
    have hKV : V.heap[D]? = some (.deferred (some [])) := by
      rw [← hV, Below.heap_setCell _ _ _ _ (by simp; omega), Below.heap_setCell _ _ _ _ (by simp; omega)]; exact HK.out
    have vv : Boxed V w.heap.size 31 (.slice vb vn vc) := by
      rw [← hV]; exact (HV.out.set _).kept (grownBy_setCell' _ _ _) (by simp)
    have ve : Boxed V (w.heap.size + 1) 32 (.int .i64 0) := by
      rw [← hV]; exact (HE.out.kept (grownBy_setCell' W w.heap.size (.slice vb vn vc)) (by simp)).set _
    have hVB : Below w.heap.size w V := by
      rw [← hV]; exact (HB.out.setCell (p := ⟨w.heap.size, 0, none⟩) (Nat.le_refl _) _).setCell (p := ⟨w.heap.size + 1, 0, none⟩) (by simp) _
    have vvc := vv.cell
    have vec := ve.cell
    refine ⟨by simp, .inl ⟨_, _, rfl, run_takeDeferred hKV, ?_⟩⟩
    have vX : (V.putObj D (.deferred none)).cell? ⟨w.heap.size, 0, none⟩ = some (.slice vb vn vc) := (World.cell?_of_block (World.putObj_heap_other nD)).trans vvc
    have eX : (V.putObj D (.deferred none)).cell? ⟨w.heap.size + 1, 0, none⟩ = some (.int .i64 0) := (World.cell?_of_block (World.putObj_heap_other nD1)).trans vec
    refine ⟨_, by simp [results, Tryz.results6, asAddr, go_sem, vX, eX], _, rfl, items_of HO.out ?_, ?_, cap_own HO.out⟩
    · intro g hgb
      obtain ⟨cur, hc⟩ := owns_block HO.out hgb
      have n1 : g ≠ w.heap.size := fun e => by
        subst e; exact absurd (cells_type ((show W.heap[_]? = _ from HV.out).symm.trans hc)) (by decide)
      have n2 : g ≠ w.heap.size + 1 := fun e => by
        subst e; exact absurd (cells_type ((show W.heap[_]? = _ from HE.out).symm.trans hc)) (by decide)
      have n3 : g ≠ D := fun e => by
        subst e; have := HK.out.symm.trans hc; cases this
      rw [World.putObj_heap_other n3, ← hV, Below.heap_setCell _ _ _ _ n2, Below.heap_setCell _ _ _ _ n1]
    · exact hVB.grown (grownBy_putObj' V D _) hVB.size (fun k e => by cases e; omega)
  case stop =>
    rintro D c pre W hD hp ⟨rfl, p, x, rfl, h1, h2, h3, h4, h5⟩ hK
    have hD2 := (Array.getElem?_eq_some_iff.1 hK).1
    have nD : ¬ w.heap.size = D := by omega
    have nD1 : ¬ w.heap.size + 1 = D := by omega
    have hR2 : walkR s = ([], x.2.1) := by rw [hR.out, find_prefix hp h1 h2]
    have HR2 := Lib.hid hR2
    clear hR2
    have cv := h3.cell
    have ce := h4.cell
    have HB := Lib.hid h5
    have HK := Lib.hid hK
    have H3 := Lib.hid h3
    have H4 := Lib.hid h4
    clear hmod hl0 he0 hx0 hb0 hK h5 h4 h3 hp h1 h2
    dsimp only
    gi_wp2_with fail
    show bodyPostM _ _ _ _ _ _ _ _
    rw [HR2.out]
    refine ⟨by simp, .inl ⟨_, _, rfl, run_takeDeferred HK.out, ?_⟩⟩
    have vX : (W.putObj D (.deferred none)).cell? ⟨w.heap.size, 0, none⟩ = some (.slice none 0 0) := (World.cell?_of_block (World.putObj_heap_other nD)).trans cv
    have eX : (W.putObj D (.deferred none)).cell? ⟨w.heap.size + 1, 0, none⟩ = some (.int .i64 x.2.1) := (World.cell?_of_block (World.putObj_heap_other nD1)).trans ce
    refine ⟨_, by simp [results, Tryz.results6, asAddr, go_sem, vX, eX], _, rfl, .inl ⟨rfl, rfl⟩, ?_, cap_nil⟩
    exact HB.out.grown (grownBy_putObj' W D _) HB.out.size (fun k e => by cases e; omega)
theorem walk_any (s : ByteArray) (w : World) (hs : s.size ≤ 9223372036854775807) :
    Calls Tryz.prog 6 #[.string s] w fun e w' => ∃ v, e = .returned (.tuple #[v, .int .i64 (walkR s).2]) ∧ Items w' v (walkR s).1 ∧ Below w.heap.size w w' :=
  (walk_full s w hs).mono fun _ _ ⟨v, h1, h2, h3, _⟩ => ⟨v, h1, h2, h3⟩
end Go.Proofs.YtbbkinldfpphdaaGreatDoor
