/- A range over a function whose body also makes and writes blocks of ONE type t of its own (a slice that grows): the iterator touches no block of that type. -/
import Derived.Test.YtbbkinldfpphdaaGreatDoorRf
namespace Go.Proofs.YtbbkinldfpphdaaGreatDoor
open Go.RowKit

/-- From block number B on, what lay lies as it lay, but for blocks of cells of the type t. -/
structure AbvT (t : TypeId) (B : Nat) (W W' : World) : Prop where
  size : W.heap.size ≤ W'.heap.size
  same : ∀ k, B ≤ k → k < W.heap.size → (∀ cs : Array Value, W.heap[k]? ≠ some (Obj.cells cs t (0, 0))) → W'.heap[k]? = W.heap[k]?
theorem AbvT.of {t : TypeId} {B : Nat} {W W' : World} (h : Abv B W W') : AbvT t B W W' := ⟨h.size, fun k h1 h2 _ => h.same k h1 h2⟩
/-- Below B, and in all blocks of the type t, what lay lies as it lay. -/
structure Blt (t : TypeId) (B : Nat) (W W' : World) : Prop where
  below : Below B W W'
  keep : ∀ (k : Nat) (cs : Array Value), W.heap[k]? = some (Obj.cells cs t (0, 0)) → W'.heap[k]? = some (Obj.cells cs t (0, 0))
theorem Blt.refl (t : TypeId) (B : Nat) (W : World) : Blt t B W W := ⟨Below.refl B W, fun _ _ h => h⟩
theorem Blt.mono {t : TypeId} {B B' : Nat} {W W' : World} (h : Blt t B W W') (hb : B' ≤ B) : Blt t B' W W' := ⟨h.below.mono hb, h.keep⟩
theorem Blt.alloc {t : TypeId} {B : Nat} {W W' : World} (h : Blt t B W W') (hb : B ≤ W'.heap.size) (o : Obj) : Blt t B W (W'.alloc o) :=
  ⟨h.below.alloc hb o, fun k cs hk => by
    have h1 := h.keep k cs hk
    exact (Below.heap_alloc W' o k (Array.getElem?_eq_some_iff.1 h1).1).trans h1⟩
theorem Blt.of_all {t : TypeId} {B : Nat} {W W' : World} (h : Below W.heap.size W W') (hb : B ≤ W.heap.size) : Blt t B W W' :=
  ⟨h.mono hb, fun k _ hk => (h.block k (Array.getElem?_eq_some_iff.1 hk).1).trans hk⟩

/-- An invariant that only speaks of what lies below B and in blocks of the type t. -/
def LowT {β : Type} (t : TypeId) (B : Nat) (J : β → World → Prop) : Prop := ∀ s A C, J s A → Blt t B A C → J s C

/-- The contract of an iterator value: it hands xs to yield, one after the other; it reads the blocks S; what it keeps it lays itself. -/
def IterT {α : Type} (t : TypeId) (P : Program) (g : Nat) (lb : Array Value) (encs : α → Array Value) (S : Nat → Prop) (Sx Sp : List α → Prop) (N : Nat) (w : World) : Prop :=
  ∀ (l : Nat) (J Jx : List α → World → Prop) (W : World), w.heap.size ≤ W.heap.size → Held S w W → LowT t W.heap.size J → LowT t W.heap.size Jx →
    (∀ pre x W1, J pre W1 → pre.length < N → YieldAt Fence.wide 0 P l (encs x) W1 fun e W' =>
      (e = .returned (.bool true) ∧ J (pre ++ [x]) W' ∧ AbvT t W.heap.size W1 W' ∧ Held S W1 W') ∨ (e = .returned (.bool false) ∧ Jx (pre ++ [x]) W' ∧ AbvT t W.heap.size W1 W' ∧ Held S W1 W')) →
    J [] W →
    CallsIn Fence.wide 0 P g (#[.func (.yield l) #[] #[]] ++ lb) W fun e W' => (∃ v, e = .returned v) ∧ ((∃ xs, Sx xs ∧ J xs W') ∨ (∃ pre, Sp pre ∧ Jx pre W'))

/-- How the body of a round may be left. -/
def bodyIT {α : Type} (t : TypeId) (B : Nat) (S : Nat → Prop) (I : List α → World → Prop) (Ix : Code → List α → World → Prop) (xs : List α) (W : World) : Exit → Act → World → Prop
  | .normal, _, W' => AbvT t B W W' ∧ Held S W W' ∧ I xs W'
  | .ret, _, W' => AbvT t B W W' ∧ Held S W W' ∧ Ix .ret xs W'
  | .exit id, _, W' => AbvT t B W W' ∧ Held S W W' ∧ Ix (.exit id) xs W'
  | .goto tg, _, W' => AbvT t B W W' ∧ Held S W W' ∧ Ix (.goto tg) xs W'
  | .panic _, _, _ => False
  | .outgrown, _, _ => False

theorem blt_put {t : TypeId} {B : Nat} {W : World} {l : Nat} {r : Loop} (o : Obj) (hl : B ≤ l) (hr : W.heap[l]? = some (.loop r)) : Blt t B W (W.putObj l o) := by
  have hsz := (Array.getElem?_eq_some_iff.1 hr).1
  refine ⟨(Below.refl B W).grown (grownBy_putObj' W l o) (by omega) (fun k e => by cases e; exact hl), fun k cs hk => ?_⟩
  refine (World.putObj_heap_other ?_).trans hk
  rintro rfl
  rw [hr] at hk; cases hk
theorem low_putT {β : Type} {t : TypeId} {B : Nat} {J : β → World → Prop} (hJ : LowT t B J) {s : β} {W : World} {l : Nat} {r : Loop} (o : Obj) (hl : B ≤ l) (hr : W.heap[l]? = some (.loop r)) (h : J s W) : J s (W.putObj l o) :=
  hJ s W _ h (blt_put o hl hr)

theorem wpIn_range_iterT {α : Type} {t : TypeId} {P : Program} {g : Operand} {ps : Array Tmp} {assign body : Code} {Q : Exit → Act → World → Prop} {a : Act} {w : World}
    {gf : Nat} {lb : Array Value} (hg : a.eval g = .func (.func gf) #[] lb) (eg : ∀ args w, (callFunc gf args).run P w = .ok (.enter gf args) w)
    {encs : α → Array Value} {S : Nat → Prop} {Sx Sp : List α → Prop} {N : Nat} (hseq : IterT t P gf lb encs S Sx Sp N w) (hS : ∀ k, S k → k < w.heap.size) (hps : ∀ x, (encs x).size = ps.size)
    (I : List α → World → Prop) (Ix : Code → List α → World → Prop) (hI : LowT t w.heap.size I) (hIx : ∀ c, LowT t w.heap.size (Ix c)) (h0 : I [] w) (ob : α → Obj) (a₁ : α → Nat → Act)
    (hassign : ∀ (l : Nat) (x : α) (W : World) (K : Act → World → Prop), K (a₁ x W.heap.size) (W.alloc (ob x)) →
      assign.wpIn (Fence.wide.inRound l) 0 P (Exit.then K (fun _ _ _ => False)) { tmps := (ps.zip (encs x)).foldl (fun t (p, v) => t.setIfInBounds p v) a.tmps, defers := [] } W)
    (hbody : ∀ (l : Nat) (pre : List α) (x : α) (n : Nat) (W : World), I pre W → pre.length < N → w.heap.size ≤ n → W.heap.size = n + 1 → W.heap[n]? = some (ob x) → body.wpIn (Fence.wide.inRound l) 0 P (bodyIT t w.heap.size S I Ix (pre ++ [x]) W) (a₁ x n) W)
    (hdone : ∀ (D : Nat) (xs : List α) (W : World), w.heap.size ≤ D → Sx xs → I xs W → W.heap[D]? = some (.deferred (some [])) → Q .normal { a with defers := { target := .collected D, args := #[] } :: a.defers } W)
    (hstop : ∀ (D : Nat) (c : Code) (pre : List α) (W : World), w.heap.size ≤ D → Sp pre → Ix c pre W → W.heap[D]? = some (.deferred (some [])) → c.wpIn Fence.wide 0 P Q { a with defers := { target := .collected D, args := #[] } :: a.defers } W) :
    (Code.rangeFunc g ps assign body).wpIn Fence.wide 0 P Q a w := by
  refine wpIn_rangeFunc ?_
  intro fn hfn
  obtain ⟨rec, hrec⟩ : ∃ rec : LoopState → Option Code → Loop, rec = fun st pe => { state := st, pending := pe, fn, tmps := a.tmps, params := ps, assign, body, defers := w.heap.size } := ⟨_, rfl⟩
  obtain ⟨W1, hW1⟩ : ∃ W1, (w.alloc (.deferred (some []))).alloc (.loop (rec .ready none)) = W1 := ⟨_, rfl⟩
  have hz1 : W1.heap.size = w.heap.size + 2 := by rw [← hW1]; simp
  have hL1 : W1.heap[w.heap.size + 1]? = some (.loop (rec .ready none)) := by
    rw [← hW1]; have := World.alloc_heap_new (w.alloc (.deferred (some []))) (.loop (rec .ready none)); rwa [World.size_alloc] at this
  have hK1 : W1.heap[w.heap.size]? = some (.deferred (some [])) := by
    rw [← hW1]; exact (Below.heap_alloc _ _ _ (by simp)).trans (World.alloc_heap_new w _)
  have hb1 : Below w.heap.size w W1 := by rw [← hW1]; exact ((Below.refl _ w).alloc (Nat.le_refl _) _).alloc (by simp) _
  have hI1 : I [] W1 := hI [] w W1 h0 (Blt.of_all (by rw [← hW1]; exact ((Below.refl _ w).alloc (Nat.le_refl _) _).alloc (by simp) _) (Nat.le_refl _))
  refine ⟨w.heap.size + 1, [{ target := .collected w.heap.size, args := #[] }], W1, { target := .fn (.func gf) lb, args := #[.func (.yield (w.heap.size + 1)) #[] #[]] }, W1, gf,
    #[.func (.yield (w.heap.size + 1)) #[] #[]] ++ lb, W1, ?_, ?_, fun _ _ => trivial, ?_, fun h => by simp [Fence.wide] at h, ?_⟩
  · rw [← hW1, hrec]; exact run_enterLoop_outer _ _ _ _ _
  · simp only [resolve, hg]
    simp [go_sem]
  · simp [invoke, go_sem, eg]
  · have hSl : ∀ k, S k → k ≠ w.heap.size + 1 := fun k hk => by have := hS k hk; omega
    refine (hseq (w.heap.size + 1)
      (fun pre W => I pre W ∧ W.heap[w.heap.size + 1]? = some (.loop (rec .ready none)) ∧ W.heap[w.heap.size]? = some (.deferred (some [])) ∧ w.heap.size ≤ W.heap.size)
      (fun pre W => ∃ c, Ix c pre W ∧ W.heap[w.heap.size + 1]? = some (.loop (rec .done (some c))) ∧ W.heap[w.heap.size]? = some (.deferred (some [])))
      W1 (by omega) (fun k hk => hb1.block k (hS k hk))
      (fun s A C hs hb => ⟨hI s A C hs.1 (hb.mono (by omega)), (hb.below.block _ (by omega)).trans hs.2.1, (hb.below.block _ (by omega)).trans hs.2.2.1, Nat.le_trans hs.2.2.2 hb.below.size⟩)
      (fun s A C hs hb => by
        obtain ⟨c, hc, hl, hk⟩ := hs
        exact ⟨c, hIx c s A C hc (hb.mono (by omega)), (hb.below.block _ (by omega)).trans hl, (hb.below.block _ (by omega)).trans hk⟩)
      ?_ ⟨hI1, hL1, hK1, by omega⟩).mono ?_
    · rintro pre x W ⟨hi, hl, hk, hsz⟩ hlen
      have hlt : w.heap.size + 1 < W.heap.size := (Array.getElem?_eq_some_iff.1 hl).1
      have hy := run_yield (P := P) (args := encs x) hl (by rw [hrec]; exact hps x)
      rw [hrec] at hy
      obtain ⟨V, hV⟩ : ∃ V, W.alloc (ob x) = V := ⟨_, rfl⟩
      have hVz : V.heap.size = W.heap.size + 1 := by rw [← hV]; simp
      have hVs : ∀ k, k < W.heap.size → V.heap[k]? = W.heap[k]? := fun k hk => by rw [← hV]; exact Below.heap_alloc _ _ _ hk
      have hVl := (hVs (w.heap.size + 1) hlt).trans hl
      have hVn : V.heap[W.heap.size]? = some (ob x) := by rw [← hV]; exact World.alloc_heap_new W _
      have hVi : I pre V := hI pre W V hi (by rw [← hV]; exact (Blt.refl t w.heap.size W).alloc hsz _)
      refine ⟨fn, _, assign, body, hy, roundIn_of_wpIn hfn (hassign _ x W _ ?_)⟩
      rw [hV]
      refine ⟨_, run_beginRound hVl (by rw [hrec]), ?_⟩
      have hl2 : (V.putObj (w.heap.size + 1) (.loop { rec .ready none with state := .busy })).heap[w.heap.size + 1]? = some (.loop { rec .ready none with state := .busy }) := World.putObj_heap_same (by omega)
      have hk2 : (V.putObj (w.heap.size + 1) (.loop { rec .ready none with state := .busy })).heap[w.heap.size]? = some (.deferred (some [])) := (World.putObj_heap_other (by omega)).trans ((hVs _ (by omega)).trans hk)
      refine wpIn_mono (hbody _ pre x W.heap.size _ (low_putT hI _ (by omega) hVl hVi) hlen hsz (by simpa using hVz) ((World.putObj_heap_other (by omega)).trans hVn)) ?_
      have fin : ∀ (jump : Option Code) (W3 : World), AbvT t w.heap.size (V.putObj (w.heap.size + 1) (.loop { rec .ready none with state := .busy })) W3 → Held S (V.putObj (w.heap.size + 1) (.loop { rec .ready none with state := .busy })) W3 →
          (Instr.endRound (w.heap.size + 1) jump).run P W3 = .ok (.bool jump.isNone) (W3.putObj (w.heap.size + 1) (.loop (rec (if jump.isNone then .ready else .done) jump))) ∧
          (∃ r, W3.heap[w.heap.size + 1]? = some (.loop r)) ∧
          (W3.putObj (w.heap.size + 1) (.loop (rec (if jump.isNone then .ready else .done) jump))).heap[w.heap.size + 1]? = some (.loop (rec (if jump.isNone then .ready else .done) jump)) ∧
          (W3.putObj (w.heap.size + 1) (.loop (rec (if jump.isNone then .ready else .done) jump))).heap[w.heap.size]? = some (.deferred (some [])) ∧
          AbvT t W1.heap.size W (W3.putObj (w.heap.size + 1) (.loop (rec (if jump.isNone then .ready else .done) jump))) ∧
          Held S W (W3.putObj (w.heap.size + 1) (.loop (rec (if jump.isNone then .ready else .done) jump))) := fun jump W3 hk3 hs3 => by
        have hl3 := (hk3.same (w.heap.size + 1) (by omega) (by simp; omega) (fun cs e => by rw [hl2] at e; cases e)).trans hl2
        have hk4 := (hk3.same w.heap.size (by omega) (by simp; omega) (fun cs e => by rw [hk2] at e; cases e)).trans hk2
        have hlt3 := (Array.getElem?_eq_some_iff.1 hl3).1
        have := run_endRound (P := P) jump hl3
        rw [hrec] at this ⊢
        refine ⟨this, ⟨_, hl3⟩, World.putObj_heap_same hlt3, (World.putObj_heap_other (by omega)).trans hk4, ⟨?_, ?_⟩, ?_⟩
        · have := hk3.size; simp at this ⊢; omega
        · intro k hB hk hne
          rw [World.putObj_heap_other (by omega), hk3.same k (by omega) (by simp; omega) (fun cs e => hne cs (by rwa [World.putObj_heap_other (by omega), hVs k hk] at e)), World.putObj_heap_other (by omega), hVs k hk]
        · intro k hk
          have := hS k hk
          rw [World.putObj_heap_other (hSl k hk), hs3 k hk, World.putObj_heap_other (hSl k hk), hVs k (by omega)]
      rintro e a3 W3 hp
      cases e with
      | normal =>
        obtain ⟨hk3, hs3, hi3⟩ := hp
        obtain ⟨hr, ⟨_, hl3⟩, hl4, hk4, ha4, hs4⟩ := fin none W3 hk3 hs3
        exact ⟨_, _, hr, .inl ⟨rfl, ⟨low_putT hI _ (by omega) hl3 hi3, hl4, hk4, by have := ha4.size; omega⟩, ha4, hs4⟩⟩
      | ret =>
        obtain ⟨hk3, hs3, hi3⟩ := hp
        obtain ⟨hr, ⟨_, hl3⟩, hl4, hk4, ha4, hs4⟩ := fin (some .ret) W3 hk3 hs3
        exact ⟨_, _, hr, .inr ⟨rfl, ⟨.ret, low_putT (hIx _) _ (by omega) hl3 hi3, hl4, hk4⟩, ha4, hs4⟩⟩
      | exit id =>
        obtain ⟨hk3, hs3, hi3⟩ := hp
        obtain ⟨hr, ⟨_, hl3⟩, hl4, hk4, ha4, hs4⟩ := fin (some (.exit id)) W3 hk3 hs3
        exact ⟨_, _, hr, .inr ⟨rfl, ⟨.exit id, low_putT (hIx _) _ (by omega) hl3 hi3, hl4, hk4⟩, ha4, hs4⟩⟩
      | goto tg =>
        obtain ⟨hk3, hs3, hi3⟩ := hp
        obtain ⟨hr, ⟨_, hl3⟩, hl4, hk4, ha4, hs4⟩ := fin (some (.goto tg)) W3 hk3 hs3
        exact ⟨_, _, hr, .inr ⟨rfl, ⟨.goto tg, low_putT (hIx _) _ (by omega) hl3 hi3, hl4, hk4⟩, ha4, hs4⟩⟩
      | panic ch => exact hp.elim
      | outgrown => exact hp.elim
    · rintro e W2 ⟨⟨v, rfl⟩, (⟨xs, hSx, hi, hl, hk, _⟩ | ⟨pre, hSp, c, hi, hl, hk⟩)⟩
      · have hlt := (Array.getElem?_eq_some_iff.1 hl).1
        exact ⟨none, _, by have := run_endLoop (P := P) hl (by rw [hrec]; simp); rw [hrec] at this; exact this, hdone _ xs _ (Nat.le_refl _) hSx (low_putT hI _ (by omega) hl hi) ((World.putObj_heap_other (by omega)).trans hk)⟩
      · have hlt := (Array.getElem?_eq_some_iff.1 hl).1
        exact ⟨some c, _, by have := run_endLoop (P := P) hl (by rw [hrec]; simp); rw [hrec] at this; exact this, hstop _ c pre _ (Nat.le_refl _) hSp (low_putT (hIx c) _ (by omega) hl hi) ((World.putObj_heap_other (by omega)).trans hk)⟩

end Go.Proofs.YtbbkinldfpphdaaGreatDoor
