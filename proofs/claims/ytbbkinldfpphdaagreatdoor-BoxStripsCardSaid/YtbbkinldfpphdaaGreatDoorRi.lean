/- Regions that draw their order, walked by forks: first the operations that yield one value in every world of a class, then all orders of the others. -/
import Derived.Test.YtbbkinldfpphdaaGreatDoorRh
import Derived.Maps.AppendAt
import Derived.Laws.AppendOwnNone
namespace Go.Proofs.YtbbkinldfpphdaaGreatDoor
open Go.RowKit

section
variable {P : Program} {ops : Array Oper} {Q : Exit → Act → World → Prop} {md : Region.Mode} {S : World → Prop} {z : Nat}

/-- Operations that yield, one behind the other; what is left is K's. -/
def walkK (P : Program) (ops : Array Oper) (S : World → Prop) : List Nat → (Act → World → Prop) → Act → World → Prop
  | [], K, a, w => K a w
  | i :: l, K, a, w => ∃ o v, ops[i]? = some o ∧ YieldsIf P ops S o v a ∧ walkK P ops S l K (a.put o.dst v) w
def markL (l : List Nat) (listed : Array Bool) : Array Bool := l.foldl (fun s i => s.setIfInBounds i true) listed
def prefB (md : Region.Mode) (ops : Array Oper) : List Nat → Array Bool → Bool
  | [], _ => true
  | i :: l, listed => (Region.ready md ops listed).contains i && Region.free md ops listed i && prefB md ops l (listed.setIfInBounds i true)

theorem wpAnyG_prefix (hs : Region.noSelect ops = true) (hl : lastB md ops z = true) (hQ : ∀ c a (t : Tmp) v w, Q (.panic c) (a.put (some t) v) w → Q (.panic c) a w) (fuel : Nat) :
    ∀ (l : List Nat) (listed : Array Bool) (a : Act) (w : World), prefB md ops l listed = true → S w →
      walkK P ops S l (fun a' w' => wpAnyG P md ops Q S z fuel (markL l listed) a' w') a w → wpAnyG P md ops Q S z (fuel + l.length) listed a w
  | [], listed, a, w, _, _, h => h
  | i :: l, listed, a, w, hB, hS, h => by
    simp only [prefB, Bool.and_eq_true] at hB
    obtain ⟨⟨hr, hf⟩, hB'⟩ := hB
    obtain ⟨o, v, ho, hy, h'⟩ := h
    have hr' : i ∈ Region.ready md ops listed := by simpa using hr
    exact wpAnyG_first ho (Region.noSelect_spec hs) hl (fun c a w h => by
      cases hd : o.dst with
      | none => rw [hd] at h; exact h
      | some t => rw [hd] at h; exact hQ c a t v w h) (fuel + l.length) listed a w (Region.free_spec ho hf) hr' hy hS (wpAnyG_prefix hs hl hQ fuel l _ _ w hB' hS h')

theorem wp_region_fork {id : Nat} {a : Act} {w : World} {l : List Oper} (z : Nat) (σ : List Nat) (n : Nat) (S : World → Prop) (hm : P.follows .mixedOrders = true) (hs : Region.noSelect l.toArray = true) (hl : lastB .any l.toArray z = true)
    (hσ : n + σ.length = l.length) (hB : prefB .any l.toArray σ (Array.replicate l.toArray.size false) = true) (hQ : ∀ c a (t : Tmp) v w, Q (.panic c) (a.put (some t) v) w → Q (.panic c) a w) (hS : S w.drew)
    (h : walkK P l.toArray S σ (fun a' w' => wpAnyG P .any l.toArray Q S z n (markL σ (Array.replicate l.toArray.size false)) a' w') a w.drew) : (Code.region id l.toArray true).wp P Q a w := by
  refine wp_region_any hm ?_
  have := wpAny_of_g _ _ _ _ (wpAnyG_prefix (md := .any) hs hl hQ n σ (Array.replicate l.toArray.size false) a w.drew hB hS h)
  rw [hσ] at this
  simpa using this
theorem walkK_val {L : List Oper} {i : Nat} {l : List Nat} {K : Act → World → Prop} {a : Act} {w : World} {o : Oper} {v : Value} (ho : L[i]? = some o) (hw : Region.wanted o (yielded L.toArray a.tmps) = true) (h : ∀ w, S w → (execOp a.eval o).run P w = .ok (.value v) w)
    (hr : walkK P L.toArray S l K (a.put o.dst v) w) : walkK P L.toArray S (i :: l) K a w := ⟨o, v, by simpa using ho, .inl ⟨hw, h⟩, hr⟩
theorem anyG_step {fuel : Nat} {listed : Array Bool} {a : Act} {w : World} (L : List Nat) (hl : Region.ready md ops listed = L) (hne : L ≠ [])
    (h : ∀ i ∈ L, wpOp P ops Q i (fun a' w' => (i ≠ z → S w') ∧ wpAnyG P md ops Q S z fuel (listed.setIfInBounds i true) a' w') a w) : wpAnyG P md ops Q S z (fuel + 1) listed a w := by
  subst hl; exact ⟨fun h => absurd h hne, h⟩
theorem anyG_end {listed : Array Bool} {a : Act} {w : World} (hl : Region.ready md ops listed = []) (h : Q .normal a w) : wpAnyG P md ops Q S z 0 listed a w := ⟨hl, h⟩
theorem opG_do {L : List Oper} {i : Nat} {K : Act → World → Prop} {a : Act} {w : World} {o : Oper} (ho : L[i]? = some o) (hw : Region.wanted o (yielded L.toArray a.tmps) = true) (h : Oper.wp P o a w K Q) : wpOp P L.toArray Q i K a w := by
  have ho' : L.toArray[i]? = some o := by simpa using ho
  unfold wpOp
  simp only [ho', hw, if_true]
  exact .inl h
/-- An append to a row that the call owns: how much however; where the new row lies. -/
theorem wp_append_at {o : Oper} {a : Act} {w : World} {K : Act → World → Prop} (s x : Operand) (t : TypeId)
    (ho : o.op = .call { callee := .builtin .append, args := #[s, x], argTypes := #[t, t] })
    (base : Nat) (e : TypeId) (i : TypeInfo) (z : Value) (size bytes : Nat) (ht : P.underlying t = some (.slice e)) (hi : P.info? e = some i) (hz : i.zero = some z)
    (hsize : i.size = size) (hby : i.bytes = bytes) (hzs : z.cells.size = size) (hsz : 0 < size)
    (v : Value) (n : Nat) (xs : List Value) (hs : a.eval s = v) (hown : w.ownsRow base e size v n xs)
    (ad : Addr) (m c : Nat) (news : List Value) (hx : a.eval x = .slice (some ad) m c) (hl : news.length = m * size) (hnews : ∀ j u, news[j]? = some u → w.cell? (ad.add j) = some u) (h1 : ∀ u ∈ news, u.oneCell' = true)
    (h63 : n + m ≤ maxLen) (hbytes : (n + m) * bytes ≤ 140737488355328) (hbase : base ≤ w.heap.size)
    (h : ∀ v' w', w'.ownsRow base e size v' (n + m) (xs ++ news) → w.grownBy w' v.ownBlock → (v'.ownBlock = v.ownBlock ∨ v'.ownBlock = some w.heap.size) → K (a.put o.dst v') w') : o.wp P a w K Q := by
  obtain ⟨v', w', hr, h2, h3, _, h5⟩ := run_append_own_at (P := P) w base t o.type e i z size bytes ht hi hz hsize hby hzs hsz v n xs hown ad m c news hl hnews h1 h63 hbytes hbase
  unfold Oper.wp execOp
  simp only [ho, resolve, invoke, builtin, Sem.run_bind, Sem.run_pure, Result.andThen_ok, List.map_toArray, List.map_cons, List.map_nil, hs, hx, hr]
  exact h v' w' h2 h3 h5
/-- A slice to be appended: nil, or cells that lie in memory. -/
def Src (w : World) (v : Value) (m size : Nat) (news : List Value) : Prop :=
  (v = .slice none 0 0 ∧ m = 0 ∧ news = []) ∨ ∃ (ad : Addr) (c : Nat), v = .slice (some ad) m c ∧ news.length = m * size ∧ (∀ u ∈ news, u.oneCell' = true) ∧ ∀ j u, news[j]? = some u → w.cell? (ad.add j) = some u
theorem Src.kept {w w' : World} {v : Value} {m size : Nat} {news : List Value} (h : Src w v m size news) (hb : Below w.heap.size w w') : Src w' v m size news := by
  rcases h with h | ⟨ad, c, h1, h2, h3, h4⟩
  · exact .inl h
  · exact .inr ⟨ad, c, h1, h2, h3, fun j u hu => (hb.cell (p := ad.add j) (block_lt_of_cell (h4 j u hu))).trans (h4 j u hu)⟩
theorem wp_append_src {o : Oper} {a : Act} {w : World} {K : Act → World → Prop} (s x : Operand) (t : TypeId)
    (ho : o.op = .call { callee := .builtin .append, args := #[s, x], argTypes := #[t, t] })
    (base : Nat) (e : TypeId) (i : TypeInfo) (z : Value) (size bytes : Nat) (ht : P.underlying t = some (.slice e)) (hi : P.info? e = some i) (hz : i.zero = some z)
    (hsize : i.size = size) (hby : i.bytes = bytes) (hzs : z.cells.size = size) (hsz : 0 < size)
    (v : Value) (n : Nat) (xs : List Value) (hs : a.eval s = v) (hown : w.ownsRow base e size v n xs)
    (sv : Value) (m : Nat) (news : List Value) (hx : a.eval x = sv) (hsrc : Src w sv m size news)
    (h63 : n + m ≤ maxLen) (hbytes : (n + m) * bytes ≤ 140737488355328) (hbase : base ≤ w.heap.size)
    (h : ∀ v' w', w'.ownsRow base e size v' (n + m) (xs ++ news) → w.grownBy w' v.ownBlock → (v'.ownBlock = v.ownBlock ∨ v'.ownBlock = some w.heap.size) → K (a.put o.dst v') w') : o.wp P a w K Q := by
  rcases hsrc with ⟨h1, h2, h3⟩ | ⟨ad, c, h1, h2, h3, h4⟩
  · subst h2 h3
    have hrun := run_append_owned_none (P := P) (w := w) base t o.type e i size ht hi v n xs hown
    unfold Oper.wp
    simp [execOp, ho, resolve, invoke, builtin, hs, hx, h1, hrun, Result.andThen]
    exact h v w (by simpa using hown) (World.grownBy.refl w _) (.inl rfl)
  · exact wp_append_at s x t ho base e i z size bytes ht hi hz hsize hby hzs hsz v n xs hs hown ad m c news (hx.trans h1) h2 h4 h3 h63 hbytes hbase h
/-- An empty row that was made. -/
theorem own_empty {w : World} {base g size : Nat} {e : TypeId} (hb : base ≤ g) (h : w.heap[g]? = some (.cells #[] e (0, 0))) : w.ownsRow base e size (.slice (some ⟨g, 0, none⟩) 0 0) 0 [] :=
  ⟨by simp, .inr ⟨g, 0, #[], rfl, hb, h, Nat.le_refl _, by simp [maxLen], by simp, by simp⟩⟩
end
end Go.Proofs.YtbbkinldfpphdaaGreatDoor
