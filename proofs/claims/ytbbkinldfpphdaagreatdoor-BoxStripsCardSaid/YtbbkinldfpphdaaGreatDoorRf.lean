/- A range over a function whose iterator keeps state of its own in cells: the border is drawn by block numbers: what lay ahead of the loop is the body's, what is laid from the loop on is the iterator's. -/
import Derived.Test.YtbbkinldfpphdaaGreatDoorHp
import Derived.RangeFuncNested
import Derived.RangeFuncBound
import Derived.RangeFuncCalls
import Derived.RangeFuncLeaves
import Derived.Shelf.Abstract
import Derived.Shelf.RegionOpen
import Derived.OwnWalkIn
import Derived.TacticsInMore
import Derived.LoopNIn
import Derived.LoopIn
namespace Go.Proofs.YtbbkinldfpphdaaGreatDoor
open Go.RowKit

/-- From block number B on, what lay lies as it lay. -/
structure Abv (B : Nat) (W W' : World) : Prop where
  size : W.heap.size ≤ W'.heap.size
  same : ∀ k, B ≤ k → k < W.heap.size → W'.heap[k]? = W.heap[k]?
theorem Abv.refl (B : Nat) (W : World) : Abv B W W := ⟨Nat.le_refl _, fun _ _ _ => rfl⟩
theorem Abv.trans {B : Nat} {X Y Z : World} (h : Abv B X Y) (k : Abv B Y Z) : Abv B X Z :=
  ⟨Nat.le_trans h.size k.size, fun i hB hi => (k.same i hB (Nat.lt_of_lt_of_le hi h.size)).trans (h.same i hB hi)⟩
theorem Abv.mono {B B' : Nat} {X Y : World} (h : Abv B X Y) (hB : B ≤ B') : Abv B' X Y := ⟨h.size, fun k hk => h.same k (Nat.le_trans hB hk)⟩
theorem Abv.alloc (B : Nat) (W : World) (o : Obj) : Abv B W (W.alloc o) := ⟨by simp, fun k _ hk => Below.heap_alloc W o k hk⟩
theorem Abv.drew (B : Nat) (W : World) : Abv B W W.drew := ⟨Nat.le_refl _, fun _ _ _ => rfl⟩
theorem Abv.set {B : Nat} (W : World) {p : Addr} (hp : p.block < B) (u : Value) : Abv B W (W.setCell p u) := ⟨by simp [World.setCell], fun k hB _ => Below.heap_setCell W p u k (by omega)⟩
theorem Abv.of_below {B : Nat} {W W' : World} (h : Below W.heap.size W W') : Abv B W W' := ⟨h.size, fun k _ hk => h.block k hk⟩
theorem Abv.of_grown {B : Nat} {W W' : World} {row : Option Nat} (hg : W.grownBy W' row) (hr : ∀ k, row = some k → k < B) : Abv B W W' := ⟨hg.size, fun k hB hk => hg.block k hk (fun e => by have := hr k e.symm; omega)⟩

/-- The blocks of the set S lie as they lay. -/
def Held (S : Nat → Prop) (W W' : World) : Prop := ∀ k, S k → W'.heap[k]? = W.heap[k]?
theorem Held.refl (S : Nat → Prop) (W : World) : Held S W W := fun _ _ => rfl
theorem Held.trans {S : Nat → Prop} {X Y Z : World} (h : Held S X Y) (k : Held S Y Z) : Held S X Z := fun i hi => (k i hi).trans (h i hi)

/-- An invariant that only speaks of what lies below B. -/
def Low {β : Type} (B : Nat) (J : β → World → Prop) : Prop := ∀ s A C, J s A → Below B A C → J s C

/-- The contract of an iterator value: it hands xs to yield, one after the other; it reads the blocks S; what it keeps it lays itself. -/
def Iter {α : Type} (P : Program) (g : Nat) (lb : Array Value) (encs : α → Array Value) (S : Nat → Prop) (Sx Sp : List α → Prop) (N : Nat) (w : World) : Prop :=
  ∀ (l : Nat) (J Jx : List α → World → Prop) (W : World), w.heap.size ≤ W.heap.size → Held S w W → Low W.heap.size J → Low W.heap.size Jx →
    (∀ pre x W1, J pre W1 → pre.length < N → YieldAt Fence.wide 0 P l (encs x) W1 fun e W' =>
      (e = .returned (.bool true) ∧ J (pre ++ [x]) W' ∧ Abv W.heap.size W1 W' ∧ Held S W1 W') ∨ (e = .returned (.bool false) ∧ Jx (pre ++ [x]) W' ∧ Abv W.heap.size W1 W' ∧ Held S W1 W')) →
    J [] W →
    CallsIn Fence.wide 0 P g (#[.func (.yield l) #[] #[]] ++ lb) W fun e W' => (∃ v, e = .returned v) ∧ ((∃ xs, Sx xs ∧ J xs W') ∨ (∃ pre, Sp pre ∧ Jx pre W'))

/-- How the body of a round may be left. -/
def bodyI {α : Type} (B : Nat) (S : Nat → Prop) (I : List α → World → Prop) (Ix : Code → List α → World → Prop) (xs : List α) (W : World) : Exit → Act → World → Prop
  | .normal, _, W' => Abv B W W' ∧ Held S W W' ∧ I xs W'
  | .ret, _, W' => Abv B W W' ∧ Held S W W' ∧ Ix .ret xs W'
  | .exit id, _, W' => Abv B W W' ∧ Held S W W' ∧ Ix (.exit id) xs W'
  | .goto t, _, W' => Abv B W W' ∧ Held S W W' ∧ Ix (.goto t) xs W'
  | .panic _, _, _ => False
  | .outgrown, _, _ => False

theorem low_put {β : Type} {B : Nat} {J : β → World → Prop} (hJ : Low B J) {s : β} {W : World} {l : Nat} (o : Obj) (hl : B ≤ l) (hsz : l < W.heap.size) (h : J s W) : J s (W.putObj l o) :=
  hJ s W _ h ((Below.refl B W).grown (grownBy_putObj' W l o) (by omega) (fun k e => by cases e; exact hl))

theorem wpIn_range_iter {α : Type} {P : Program} {g : Operand} {ps : Array Tmp} {assign body : Code} {Q : Exit → Act → World → Prop} {a : Act} {w : World}
    {gf : Nat} {lb : Array Value} (hg : a.eval g = .func (.func gf) #[] lb) (eg : ∀ args w, (callFunc gf args).run P w = .ok (.enter gf args) w)
    {encs : α → Array Value} {S : Nat → Prop} {Sx Sp : List α → Prop} {N : Nat} (hseq : Iter P gf lb encs S Sx Sp N w) (hS : ∀ k, S k → k < w.heap.size) (hps : ∀ x, (encs x).size = ps.size)
    (I : List α → World → Prop) (Ix : Code → List α → World → Prop) (hI : Low w.heap.size I) (hIx : ∀ c, Low w.heap.size (Ix c)) (h0 : I [] w) (a₁ : α → Act)
    (hassign : ∀ (l : Nat) (x : α) (W : World) (K : Act → World → Prop), K (a₁ x) W →
      assign.wpIn (Fence.wide.inRound l) 0 P (Exit.then K (fun _ _ _ => False)) { tmps := (ps.zip (encs x)).foldl (fun t (p, v) => t.setIfInBounds p v) a.tmps, defers := [] } W)
    (hbody : ∀ (l : Nat) (pre : List α) (x : α) (W : World), I pre W → pre.length < N → w.heap.size ≤ W.heap.size → body.wpIn (Fence.wide.inRound l) 0 P (bodyI w.heap.size S I Ix (pre ++ [x]) W) (a₁ x) W)
    (hdone : ∀ (D : Nat) (xs : List α) (W : World), w.heap.size ≤ D → Sx xs → I xs W → W.heap[D]? = some (.deferred (some [])) → Q .normal { a with defers := { target := .collected D, args := #[] } :: a.defers } W)
    (hstop : ∀ (D : Nat) (c : Code) (pre : List α) (W : World), w.heap.size ≤ D → Sp pre → Ix c pre W → W.heap[D]? = some (.deferred (some [])) → c.wpIn Fence.wide 0 P Q { a with defers := { target := .collected D, args := #[] } :: a.defers } W) :
    (Code.rangeFunc g ps assign body).wpIn Fence.wide 0 P Q a w := by
  refine wpIn_rangeFunc ?_
  intro fn hfn
  obtain ⟨rec, hrec⟩ : ∃ rec : LoopState → Option Code → Loop, rec = fun st pe => { state := st, pending := pe, fn, tmps := a.tmps, params := ps, assign, body, defers := w.heap.size } := ⟨_, rfl⟩
  obtain ⟨W1, hW1⟩ : ∃ W1, (w.alloc (.deferred (some []))).alloc (.loop (rec .ready none)) = W1 := ⟨_, rfl⟩
  have hz1 : W1.heap.size = w.heap.size + 2 := by rw [← hW1]; simp
  have hL1 : W1.heap[w.heap.size + 1]? = some (.loop (rec .ready none)) := by
    rw [← hW1]; have := World.alloc_heap_new (w.alloc (.deferred (some []))) (.loop (rec .ready none)); rwa [World.size_alloc] at this
  have hK1 : W1.heap[w.heap.size]? = some (.deferred (some [])) := by
    rw [← hW1]; exact (Below.heap_alloc _ _ _ (by simp)).trans (World.alloc_heap_new w _)
  have hb1 : Below w.heap.size w W1 := by rw [← hW1]; exact ((Below.refl _ w).alloc (Nat.le_refl _) _).alloc (by simp) _
  have hI1 : I [] W1 := hI [] w W1 h0 hb1
  refine ⟨w.heap.size + 1, [{ target := .collected w.heap.size, args := #[] }], W1, { target := .fn (.func gf) lb, args := #[.func (.yield (w.heap.size + 1)) #[] #[]] }, W1, gf,
    #[.func (.yield (w.heap.size + 1)) #[] #[]] ++ lb, W1, ?_, ?_, fun _ _ => trivial, ?_, fun h => by simp [Fence.wide] at h, ?_⟩
  · rw [← hW1, hrec]; exact run_enterLoop_outer _ _ _ _ _
  · simp only [resolve, hg]
    simp [go_sem]
  · simp [invoke, go_sem, eg]
  · have hSl : ∀ k, S k → k ≠ w.heap.size + 1 := fun k hk => by have := hS k hk; omega
    refine (hseq (w.heap.size + 1)
      (fun pre W => I pre W ∧ W.heap[w.heap.size + 1]? = some (.loop (rec .ready none)) ∧ W.heap[w.heap.size]? = some (.deferred (some [])) ∧ w.heap.size ≤ W.heap.size)
      (fun pre W => ∃ c, Ix c pre W ∧ W.heap[w.heap.size + 1]? = some (.loop (rec .done (some c))) ∧ W.heap[w.heap.size]? = some (.deferred (some [])))
      W1 (by omega) (fun k hk => hb1.block k (hS k hk))
      (fun s A C hs hb => ⟨hI s A C hs.1 (hb.mono (by omega)), (hb.block _ (by omega)).trans hs.2.1, (hb.block _ (by omega)).trans hs.2.2.1, Nat.le_trans hs.2.2.2 hb.size⟩)
      (fun s A C hs hb => by
        obtain ⟨c, hc, hl, hk⟩ := hs
        exact ⟨c, hIx c s A C hc (hb.mono (by omega)), (hb.block _ (by omega)).trans hl, (hb.block _ (by omega)).trans hk⟩)
      ?_ ⟨hI1, hL1, hK1, by omega⟩).mono ?_
    · rintro pre x W ⟨hi, hl, hk, hsz⟩ hlen
      have hlt : w.heap.size + 1 < W.heap.size := (Array.getElem?_eq_some_iff.1 hl).1
      have hy := run_yield (P := P) (args := encs x) hl (by rw [hrec]; exact hps x)
      rw [hrec] at hy
      refine ⟨fn, _, assign, body, hy, roundIn_of_wpIn hfn (hassign _ x W _ ⟨_, run_beginRound hl (by rw [hrec]), ?_⟩)⟩
      have hl2 : (W.putObj (w.heap.size + 1) (.loop { rec .ready none with state := .busy })).heap[w.heap.size + 1]? = some (.loop { rec .ready none with state := .busy }) := World.putObj_heap_same hlt
      have hk2 : (W.putObj (w.heap.size + 1) (.loop { rec .ready none with state := .busy })).heap[w.heap.size]? = some (.deferred (some [])) := (World.putObj_heap_other (by omega)).trans hk
      refine wpIn_mono (hbody _ pre x _ (low_put hI _ (by omega) hlt hi) hlen (by simpa using hsz)) ?_
      have fin : ∀ (jump : Option Code) (W3 : World), Abv w.heap.size (W.putObj (w.heap.size + 1) (.loop { rec .ready none with state := .busy })) W3 → Held S (W.putObj (w.heap.size + 1) (.loop { rec .ready none with state := .busy })) W3 →
          (Instr.endRound (w.heap.size + 1) jump).run P W3 = .ok (.bool jump.isNone) (W3.putObj (w.heap.size + 1) (.loop (rec (if jump.isNone then .ready else .done) jump))) ∧
          w.heap.size + 1 < W3.heap.size ∧
          (W3.putObj (w.heap.size + 1) (.loop (rec (if jump.isNone then .ready else .done) jump))).heap[w.heap.size + 1]? = some (.loop (rec (if jump.isNone then .ready else .done) jump)) ∧
          (W3.putObj (w.heap.size + 1) (.loop (rec (if jump.isNone then .ready else .done) jump))).heap[w.heap.size]? = some (.deferred (some [])) ∧
          Abv W1.heap.size W (W3.putObj (w.heap.size + 1) (.loop (rec (if jump.isNone then .ready else .done) jump))) ∧
          Held S W (W3.putObj (w.heap.size + 1) (.loop (rec (if jump.isNone then .ready else .done) jump))) := fun jump W3 hk3 hs3 => by
        have hl3 := (hk3.same (w.heap.size + 1) (by omega) (by simpa using hlt)).trans hl2
        have hk4 := (hk3.same w.heap.size (by omega) (by simp; omega)).trans hk2
        have hlt3 := (Array.getElem?_eq_some_iff.1 hl3).1
        have := run_endRound (P := P) jump hl3
        rw [hrec] at this ⊢
        refine ⟨this, hlt3, World.putObj_heap_same hlt3, (World.putObj_heap_other (by omega)).trans hk4, ⟨?_, ?_⟩, ?_⟩
        · have := hk3.size; simp at this ⊢; exact this
        · intro k hB hk
          rw [World.putObj_heap_other (by omega), hk3.same k (by omega) (by simpa using hk), World.putObj_heap_other (by omega)]
        · intro k hk
          rw [World.putObj_heap_other (hSl k hk), hs3 k hk, World.putObj_heap_other (hSl k hk)]
      rintro e a3 W3 hp
      cases e with
      | normal =>
        obtain ⟨hk3, hs3, hi3⟩ := hp
        obtain ⟨hr, hlt3, hl4, hk4, ha4, hs4⟩ := fin none W3 hk3 hs3
        exact ⟨_, _, hr, .inl ⟨rfl, ⟨low_put hI _ (by omega) hlt3 hi3, hl4, hk4, by have := ha4.size; omega⟩, ha4, hs4⟩⟩
      | ret =>
        obtain ⟨hk3, hs3, hi3⟩ := hp
        obtain ⟨hr, hlt3, hl4, hk4, ha4, hs4⟩ := fin (some .ret) W3 hk3 hs3
        exact ⟨_, _, hr, .inr ⟨rfl, ⟨.ret, low_put (hIx _) _ (by omega) hlt3 hi3, hl4, hk4⟩, ha4, hs4⟩⟩
      | exit id =>
        obtain ⟨hk3, hs3, hi3⟩ := hp
        obtain ⟨hr, hlt3, hl4, hk4, ha4, hs4⟩ := fin (some (.exit id)) W3 hk3 hs3
        exact ⟨_, _, hr, .inr ⟨rfl, ⟨.exit id, low_put (hIx _) _ (by omega) hlt3 hi3, hl4, hk4⟩, ha4, hs4⟩⟩
      | goto t =>
        obtain ⟨hk3, hs3, hi3⟩ := hp
        obtain ⟨hr, hlt3, hl4, hk4, ha4, hs4⟩ := fin (some (.goto t)) W3 hk3 hs3
        exact ⟨_, _, hr, .inr ⟨rfl, ⟨.goto t, low_put (hIx _) _ (by omega) hlt3 hi3, hl4, hk4⟩, ha4, hs4⟩⟩
      | panic ch => exact hp.elim
      | outgrown => exact hp.elim
    · rintro e W2 ⟨⟨v, rfl⟩, (⟨xs, hSx, hi, hl, hk, _⟩ | ⟨pre, hSp, c, hi, hl, hk⟩)⟩
      · have hlt := (Array.getElem?_eq_some_iff.1 hl).1
        exact ⟨none, _, by have := run_endLoop (P := P) hl (by rw [hrec]; simp); rw [hrec] at this; exact this, hdone _ xs _ (Nat.le_refl _) hSx (low_put hI _ (by omega) hlt hi) ((World.putObj_heap_other (by omega)).trans hk)⟩
      · have hlt := (Array.getElem?_eq_some_iff.1 hl).1
        exact ⟨some c, _, by have := run_endLoop (P := P) hl (by rw [hrec]; simp); rw [hrec] at this; exact this, hstop _ c pre _ (Nat.le_refl _) hSp (low_put (hIx c) _ (by omega) hlt hi) ((World.putObj_heap_other (by omega)).trans hk)⟩

end Go.Proofs.YtbbkinldfpphdaaGreatDoor
