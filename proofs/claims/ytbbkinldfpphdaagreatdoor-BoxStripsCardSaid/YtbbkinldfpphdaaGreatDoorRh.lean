/- Regions that draw their order, walked in one order of the prover's: an operation that yields one value in every world of a class may be taken first; any other one must be the only one that may come; the class need not hold behind the last one. -/
import Derived.Test.YtbbkinldfpphdaaGreatDoorHp
import Derived.OrdersHeld
import Derived.StillTactics
namespace Go.Proofs.YtbbkinldfpphdaaGreatDoor
open Go.RowKit

section
variable {P : Program} {ops : Array Oper} {Q : Exit → Act → World → Prop} {md : Region.Mode} {S : World → Prop} {z : Nat}

/-- Operation z waits for all others (or there is none of that number). -/
def lastB (md : Region.Mode) (ops : Array Oper) (z : Nat) : Bool :=
  match ops[z]? with
  | none => true
  | some o => (List.range ops.size).all fun i => i == z || o.after.any fun e => Region.binds md e && e.on == i
theorem lastB_spec (h : lastB md ops z = true) {listed : Array Bool} {i : Nat} (hi : i < ops.size) (hz : z ∈ Region.ready md ops listed) (hiz : i ≠ z) : listed.getD i false = true := by
  obtain ⟨_, o, ho, hall⟩ := mem_ready.1 hz
  unfold lastB at h
  rw [ho] at h
  have h1 := List.all_eq_true.1 h i (List.mem_range.2 hi)
  simp only [Bool.or_eq_true, beq_iff_eq] at h1
  rcases h1 with h1 | h1
  · exact absurd h1 hiz
  · obtain ⟨j, hj, h2⟩ := Array.any_eq_true.1 h1
    simp only [Bool.and_eq_true, beq_iff_eq] at h2
    have := hall _ (Array.getElem_mem hj) h2.1
    rw [h2.2] at this
    exact this

/-- Whatever order is picked from here on; S holds behind each operation but number z. -/
def wpAnyG (P : Program) (md : Region.Mode) (ops : Array Oper) (Q : Exit → Act → World → Prop) (S : World → Prop) (z : Nat) : Nat → Array Bool → Act → World → Prop
  | 0, listed, a, w => Region.ready md ops listed = [] ∧ Q .normal a w
  | fuel + 1, listed, a, w =>
    (Region.ready md ops listed = [] → Q .normal a w) ∧
    ∀ i ∈ Region.ready md ops listed, wpOp P ops Q i (fun a' w' => (i ≠ z → S w') ∧ wpAnyG P md ops Q S z fuel (listed.setIfInBounds i true) a' w') a w

theorem wpAny_of_g : ∀ (fuel : Nat) (listed : Array Bool) (a : Act) (w : World), wpAnyG P md ops Q S z fuel listed a w → wpAny P md ops Q fuel listed a w
  | 0, _, _, _, h => h
  | fuel + 1, _, _, _, h => ⟨h.1, fun i hi => wpOp_mono (fun a' w' h' => wpAny_of_g fuel _ a' w' h'.2) (h.2 i hi)⟩

theorem wpAnyG_first {i : Nat} {oi : Oper} {v : Value} (hi : ops[i]? = some oi) (hsel : ∀ (j : Nat) (o : Oper) cs b, ops[j]? = some o → o.op ≠ .select cs b)
    (hl : lastB md ops z = true) (hQ : ∀ c a w, Q (.panic c) (a.put oi.dst v) w → Q (.panic c) a w) :
    ∀ (fuel : Nat) (listed : Array Bool) (a : Act) (w : World),
      (∀ j oj, ops[j]? = some oj → j ≠ i → listed.getD j true = false → (∀ e ∈ oj.after, Region.binds md e = true → e.on ≠ i) → oi.apart ops oj = true) →
      i ∈ Region.ready md ops listed → YieldsIf P ops S oi v a → S w →
      wpAnyG P md ops Q S z fuel (listed.setIfInBounds i true) (a.put oi.dst v) w → wpAnyG P md ops Q S z (fuel + 1) listed a w := by
  intro fuel
  have hisz : i < ops.size := (Array.getElem?_eq_some_iff.1 hi).1
  induction fuel with
  | zero =>
    intro listed a w _ hr hy hS H
    refine ⟨fun h => (by rw [h] at hr; cases hr), fun j hj => ?_⟩
    by_cases hji : j = i
    · subst hji; exact hy.wpOp hi hS ⟨fun _ => hS, H⟩
    · have := ready_mono hj hji
      rw [H.1] at this
      cases this
  | succ fuel ih =>
    intro listed a w hfree hr hy hS H
    refine ⟨fun h => (by rw [h] at hr; cases hr), fun j hj => ?_⟩
    by_cases hji : j = i
    · subst hji; exact hy.wpOp hi hS ⟨fun _ => hS, H⟩
    · have h1 := H.2 j (ready_mono hj hji)
      obtain ⟨hjun, oj, hoj, hall⟩ := mem_ready.1 hj
      have hiun := (mem_ready.1 hr).1
      have hnot : ∀ e ∈ oj.after, Region.binds md e = true → e.on ≠ i := fun e he hb heq => by
        have h1 := hall e he hb
        rw [heq] at h1
        rcases Nat.lt_or_ge i listed.size with h' | h'
        · simp [h'] at hiun h1; rw [hiun] at h1; cases h1
        · simp [Array.getElem?_eq_none h'] at h1
      have hjz : j ≠ z := fun e => by
        subst e
        have h3 := lastB_spec hl hisz hj (Ne.symm hji)
        rcases Nat.lt_or_ge i listed.size with h' | h'
        · simp [h'] at hiun h3; rw [hiun] at h3; cases h3
        · simp [Array.getElem?_eq_none h'] at h3
      have h2 := wpOp_putIf hoj (hfree j oj hoj hji hjun hnot) (fun cs b => hsel i oi cs b hi) (fun cs b => hsel j oj cs b hoj) hQ hy h1
      have hfree' : ∀ k ok, ops[k]? = some ok → k ≠ i → (listed.setIfInBounds j true).getD k true = false →
          (∀ e ∈ ok.after, Region.binds md e = true → e.on ≠ i) → oi.apart ops ok = true := fun k ok hk hki hun hno => by
        refine hfree k ok hk hki ?_ hno
        by_cases hjk : j = k
        · subst hjk; exact hjun
        · rw [getD_set_ne true hjk] at hun; exact hun
      refine wpOp_mono (fun a' w' h3 => ⟨h3.2.1, ih (listed.setIfInBounds j true) a' w' hfree' (ready_mono hr (Ne.symm hji)) h3.1 (h3.2.1 hjz) ?_⟩) h2
      rw [Array.setIfInBounds_comm _ _ hji]
      exact h3.2.2

/-- The walk in the prover's order: 'true': it yields one value in every world of the class; 'false': it is carried out where the walk stands. -/
def walkG (P : Program) (ops : Array Oper) (Q : Exit → Act → World → Prop) (S : World → Prop) (z : Nat) : List (Nat × Bool) → Act → World → Prop
  | [], a, w => Q .normal a w
  | (i, true) :: l, a, w => ∃ o v, ops[i]? = some o ∧ YieldsIf P ops S o v a ∧ walkG P ops Q S z l (a.put o.dst v) w
  | (i, false) :: l, a, w => wpOp P ops Q i (fun a' w' => (i ≠ z → S w') ∧ walkG P ops Q S z l a' w') a w
def orderB (md : Region.Mode) (ops : Array Oper) : List (Nat × Bool) → Array Bool → Bool
  | [], listed => (Region.ready md ops listed).isEmpty
  | (i, true) :: l, listed => (Region.ready md ops listed).contains i && Region.free md ops listed i && orderB md ops l (listed.setIfInBounds i true)
  | (i, false) :: l, listed => (match Region.ready md ops listed with | [j] => j == i | _ => false) && orderB md ops l (listed.setIfInBounds i true)

theorem wpAnyG_of_walk (hs : Region.noSelect ops = true) (hl : lastB md ops z = true) (hQ : ∀ c a (t : Tmp) v w, Q (.panic c) (a.put (some t) v) w → Q (.panic c) a w) :
    ∀ (l : List (Nat × Bool)) (listed : Array Bool) (a : Act) (w : World), orderB md ops l listed = true → (listed.getD z false = false → S w) → (listed.getD z false = true → l = []) →
      walkG P ops Q S z l a w → wpAnyG P md ops Q S z l.length listed a w
  | [], listed, a, w, hB, _, _, h => ⟨by simpa [orderB] using hB, h⟩
  | (i, true) :: l, listed, a, w, hB, hS, hz, h => by
    simp only [orderB, Bool.and_eq_true] at hB
    obtain ⟨⟨hr, hf⟩, hB'⟩ := hB
    obtain ⟨o, v, ho, hy, h'⟩ := h
    have hr' : i ∈ Region.ready md ops listed := by simpa using hr
    have hzf : listed.getD z false = false := by
      cases e : listed.getD z false with
      | false => rfl
      | true => have := hz e; cases this
    refine wpAnyG_first ho (Region.noSelect_spec hs) hl (fun c a w h => by
      cases hd : o.dst with
      | none => rw [hd] at h; exact h
      | some t => rw [hd] at h; exact hQ c a t v w h) l.length listed a w (Region.free_spec ho hf) hr' hy (hS hzf) ?_
    refine wpAnyG_of_walk hs hl hQ l _ _ w hB' (fun _ => hS hzf) (fun hzt => ?_) h'
    by_cases e : i = z
    · subst e
      cases l with
      | nil => rfl
      | cons x l =>
        exfalso
        obtain ⟨k, b⟩ := x
        have hk : k ∈ Region.ready md ops (listed.setIfInBounds i true) := by
          cases b with
          | true => simp only [orderB, Bool.and_eq_true] at hB'; simpa using hB'.1.1
          | false =>
            simp only [orderB, Bool.and_eq_true] at hB'
            revert hB'
            split
            · rename_i j hj; intro hB'; rw [hj]; simp at hB'; simp [hB'.1]
            · intro hB'; simp at hB'
        obtain ⟨hkun, ok, hok, _⟩ := mem_ready.1 hk
        have hki : k ≠ i := fun e => by
          subst e
          rcases Nat.lt_or_ge k listed.size with h' | h'
          · simp [h'] at hkun
          · simp at hkun
        have h3 := lastB_spec hl (Array.getElem?_eq_some_iff.1 hok).1 hr' hki
        rw [getD_set_ne true (Ne.symm hki)] at hkun
        rcases Nat.lt_or_ge k listed.size with h' | h'
        · simp [h'] at hkun h3; rw [hkun] at h3; cases h3
        · simp [Array.getElem?_eq_none h'] at h3
    · rw [getD_set_ne false e] at hzt
      rw [hzf] at hzt; cases hzt
  | (i, false) :: l, listed, a, w, hB, hS, hz, h => by
    simp only [orderB, Bool.and_eq_true] at hB
    obtain ⟨hr, hB'⟩ := hB
    have hr' : Region.ready md ops listed = [i] := by
      revert hr
      split
      · rename_i j hj; intro hr; simp at hr; rw [hj, hr]
      · intro hr; cases hr
    have hzf : listed.getD z false = false := by
      cases e : listed.getD z false with
      | false => rfl
      | true => have := hz e; cases this
    refine ⟨(fun h0 => by rw [hr'] at h0; cases h0), fun j hj => ?_⟩
    rw [hr'] at hj
    obtain rfl : j = i := by simpa using hj
    refine wpOp_mono (fun a' w' h3 => ⟨h3.1, ?_⟩) h
    have hjm : j ∈ Region.ready md ops listed := by rw [hr']; simp
    refine wpAnyG_of_walk hs hl hQ l _ _ w' hB' (fun hzf' => ?_) (fun hzt => ?_) h3.2
    · refine h3.1 (fun e => ?_)
      subst e
      obtain ⟨hun, _⟩ := mem_ready.1 hjm
      rcases Nat.lt_or_ge j listed.size with h' | h'
      · simp [h'] at hzf'
      · simp [Array.getElem?_eq_none h'] at hun
    · by_cases e : j = z
      · subst e
        cases l with
        | nil => rfl
        | cons x l =>
          exfalso
          obtain ⟨k, b⟩ := x
          have hk : k ∈ Region.ready md ops (listed.setIfInBounds j true) := by
            cases b with
            | true => simp only [orderB, Bool.and_eq_true] at hB'; simpa using hB'.1.1
            | false =>
              simp only [orderB, Bool.and_eq_true] at hB'
              revert hB'
              split
              · rename_i j hj; intro hB'; rw [hj]; simp at hB'; simp [hB'.1]
              · intro hB'; simp at hB'
          obtain ⟨hkun, ok, hok, _⟩ := mem_ready.1 hk
          have hki : k ≠ j := fun e => by
            subst e
            rcases Nat.lt_or_ge k listed.size with h' | h'
            · simp [h'] at hkun
            · simp at hkun
          have h3 := lastB_spec hl (Array.getElem?_eq_some_iff.1 hok).1 hjm hki
          rw [getD_set_ne true (Ne.symm hki)] at hkun
          rcases Nat.lt_or_ge k listed.size with h' | h'
          · simp [h'] at hkun h3; rw [hkun] at h3; cases h3
          · simp [Array.getElem?_eq_none h'] at h3
      · rw [getD_set_ne false e] at hzt
        rw [hzf] at hzt; cases hzt

/-- The same order, asked of a number's bits: cheaper where the region is great. -/
def readyN (md : Region.Mode) (m : Nat) (o : Oper) : Bool := o.after.toList.all fun e => !Region.binds md e || m.testBit e.on
def orderN (md : Region.Mode) (L : List Oper) (I : List (Oper × Nat)) : List (Nat × Bool) → Nat → Bool
  | [], m => I.all fun x => m.testBit x.2
  | (i, q) :: l, m => match L[i]? with
    | none => false
    | some oi => !m.testBit i && readyN md m oi &&
      (match q with
        | true => I.all fun x => x.2 == i || m.testBit x.2 || x.1.after.toList.any (fun e => Region.binds md e && e.on == i) || oi.apart L.toArray x.1
        | false => I.all fun x => x.2 == i || m.testBit x.2 || !readyN md m x.1) && orderN md L I l (m ||| 2 ^ i)
def bitsOf (n : Nat) (listed : Array Bool) (m : Nat) : Prop := listed.size = n ∧ (∀ j, j < n → listed[j]? = some (m.testBit j)) ∧ ∀ j, n ≤ j → m.testBit j = false
theorem bitsOf.get {n m : Nat} {listed : Array Bool} (h : bitsOf n listed m) (j : Nat) : listed.getD j false = m.testBit j := by
  rw [Array.getD_eq_getD_getElem?]
  rcases Nat.lt_or_ge j n with hj | hj
  · rw [h.2.1 j hj]; rfl
  · rw [h.2.2 j hj, Array.getElem?_eq_none (by rw [h.1]; exact hj)]; rfl
theorem bitsOf.getT {n m : Nat} {listed : Array Bool} (h : bitsOf n listed m) (j : Nat) (hj : j < n) : listed.getD j true = m.testBit j := by
  rw [Array.getD_eq_getD_getElem?, h.2.1 j hj]; rfl
theorem bitsOf.set {n m i : Nat} {listed : Array Bool} (h : bitsOf n listed m) (hi : i < n) : bitsOf n (listed.setIfInBounds i true) (m ||| 2 ^ i) := by
  refine ⟨by simp [h.1], fun j hj => ?_, fun j hj => ?_⟩
  · rw [Array.getElem?_setIfInBounds, Nat.testBit_or, Nat.testBit_two_pow]
    by_cases e : i = j
    · subst e; simp [h.1, hi]
    · rw [if_neg e, h.2.1 j hj]; simp [e]
  · rw [Nat.testBit_or, Nat.testBit_two_pow, h.2.2 j hj]; simp; omega
theorem readyN_iff {L : List Oper} {n m : Nat} {listed : Array Bool} (h : bitsOf n listed m) (hn : L.length = n) {j : Nat} {o : Oper} (ho : L[j]? = some o) :
    j ∈ Region.ready md L.toArray listed ↔ (m.testBit j = false ∧ readyN md m o = true) := by
  have hj : j < n := by rw [← hn]; exact (List.getElem?_eq_some_iff.1 ho).1
  rw [mem_ready, h.getT j hj]
  have ho' : L.toArray[j]? = some o := by simpa using ho
  refine and_congr_right fun _ => ?_
  unfold readyN
  rw [List.all_eq_true]
  constructor
  · rintro ⟨o2, ho2, hall⟩ e he
    rw [ho'] at ho2
    obtain rfl := Option.some.inj ho2
    by_cases hb : Region.binds md e = true
    · have := hall e (by simpa using he) hb
      rw [h.get] at this
      simp [this]
    · simp [hb]
  · intro hall
    refine ⟨o, ho', fun e he hb => ?_⟩
    have := hall e (by simpa using he)
    rw [h.get]
    simpa [hb] using this
theorem only_one_of {l : List Nat} {i : Nat} (hn : l.Nodup) (hi : i ∈ l) (h : ∀ j ∈ l, j = i) : l = [i] := by
  match l, hn, hi, h with
  | [a], _, _, h => rw [h a (by simp)]
  | a :: b :: r, hn, _, h =>
    have e1 := h a (by simp)
    have e2 := h b (by simp)
    subst e1; subst e2
    simp at hn
theorem orderB_of_N {L : List Oper} {n : Nat} (hn : L.length = n) : ∀ (l : List (Nat × Bool)) (listed : Array Bool) (m : Nat), bitsOf n listed m → orderN md L L.zipIdx l m = true → orderB md L.toArray l listed = true
  | [], listed, m, hb, h => by
    simp only [orderN, List.all_eq_true] at h
    simp only [orderB, List.isEmpty_iff]
    refine List.eq_nil_iff_forall_not_mem.2 fun j hj => ?_
    obtain ⟨h1, o, ho, _⟩ := mem_ready.1 hj
    have ho' : L[j]? = some o := by simpa using ho
    have hjn : j < n := by rw [← hn]; exact (List.getElem?_eq_some_iff.1 ho').1
    have h2 := h (o, j) (List.mk_mem_zipIdx_iff_getElem?.2 ho')
    rw [hb.getT j hjn] at h1
    simp only at h2
    rw [h1] at h2; cases h2
  | (i, q) :: l, listed, m, hb, h => by
    simp only [orderN] at h
    cases ho : L[i]? with
    | none => rw [ho] at h; cases h
    | some oi =>
      rw [ho] at h
      simp only [Bool.and_eq_true] at h
      obtain ⟨⟨⟨h1, h2⟩, h3⟩, h4⟩ := h
      have hin : i < n := by rw [← hn]; exact (List.getElem?_eq_some_iff.1 ho).1
      have h1' : m.testBit i = false := by simpa using h1
      have hrd : i ∈ Region.ready md L.toArray listed := (readyN_iff hb hn ho).2 ⟨h1', h2⟩
      have hrest := orderB_of_N hn l _ _ (hb.set hin) h4
      cases q with
      | true =>
        simp only [orderB, Bool.and_eq_true]
        refine ⟨⟨by simpa using hrd, ?_⟩, hrest⟩
        simp only [List.all_eq_true] at h3
        unfold Region.free
        have ho' : L.toArray[i]? = some oi := by simpa using ho
        rw [ho']
        simp only [List.all_eq_true, List.mem_range]
        intro j hj
        have hj' : j < L.length := by simpa using hj
        obtain ⟨oj, hoj⟩ : ∃ oj, L[j]? = some oj := ⟨_, List.getElem?_eq_getElem hj'⟩
        have hoj' : L.toArray[j]? = some oj := by simpa using hoj
        have h5 := h3 (oj, j) (List.mk_mem_zipIdx_iff_getElem?.2 hoj)
        rw [hoj']
        simp only [Bool.or_eq_true] at h5 ⊢
        rcases h5 with ((h5 | h5) | h5) | h5
        · exact .inl (.inl h5)
        · exact .inl (.inr (by rw [hb.getT j (by omega)]; exact h5))
        · refine .inr (.inl ?_)
          rw [← Array.any_toList]; exact h5
        · exact .inr (.inr h5)
      | false =>
        simp only [orderB, Bool.and_eq_true]
        refine ⟨?_, hrest⟩
        simp only [List.all_eq_true] at h3
        have hr : Region.ready md L.toArray listed = [i] := by
          refine only_one_of (by unfold Region.ready; exact List.nodup_range.filter _) hrd fun j hj => ?_
          obtain ⟨_, oj, hoj', _⟩ := mem_ready.1 hj
          have hoj : L[j]? = some oj := by simpa using hoj'
          obtain ⟨k1, k2⟩ := (readyN_iff hb hn hoj).1 hj
          have h5 := h3 (oj, j) (List.mk_mem_zipIdx_iff_getElem?.2 hoj)
          simp only [k1, k2, Bool.or_false, Bool.not_true, beq_iff_eq] at h5
          exact h5
        rw [hr]; simp
theorem bitsOf_zero (n : Nat) : bitsOf n (Array.replicate n false) 0 := by
  refine ⟨by simp, fun j hj => ?_, fun j _ => by simp⟩
  rw [Array.getElem?_replicate, if_pos hj]; simp
theorem order_of_N {L : List Oper} {l : List (Nat × Bool)} (h : orderN md L L.zipIdx l 0 = true) : orderB md L.toArray l (Array.replicate L.toArray.size false) = true :=
  orderB_of_N (n := L.toArray.size) (by simp) l _ _ (bitsOf_zero _) h
theorem last_none {L : List Oper} {z : Nat} (h : L.length ≤ z) : lastB md L.toArray z = true := by
  unfold lastB
  rw [Array.getElem?_eq_none (by simpa using h)]

theorem wp_region_order {id : Nat} {a : Act} {w : World} {l : List Oper} (z : Nat) (σ : List (Nat × Bool)) (S : World → Prop) (hm : P.follows .mixedOrders = true) (hs : Region.noSelect l.toArray = true) (hl : lastB .any l.toArray z = true)
    (hσ : σ.length = l.length) (hB : orderB .any l.toArray σ (Array.replicate l.toArray.size false) = true) (hQ : ∀ c a (t : Tmp) v w, Q (.panic c) (a.put (some t) v) w → Q (.panic c) a w) (hS : S w.drew)
    (h : walkG P l.toArray Q S z σ a w.drew) : (Code.region id l.toArray true).wp P Q a w := by
  refine wp_region_any hm ?_
  have := wpAny_of_g _ _ _ _ (wpAnyG_of_walk (md := .any) hs hl hQ σ (Array.replicate l.toArray.size false) a w.drew hB (fun _ => hS) (fun h0 => by
    rw [Array.getD_eq_getD_getElem?, Array.getElem?_replicate] at h0
    split at h0 <;> cases h0) h)
  rw [hσ] at this
  simpa using this
theorem walkG_val {L : List Oper} {i : Nat} {l : List (Nat × Bool)} {a : Act} {w : World} {o : Oper} {v : Value} (ho : L[i]? = some o) (hw : Region.wanted o (yielded L.toArray a.tmps) = true) (h : ∀ w, S w → (execOp a.eval o).run P w = .ok (.value v) w)
    (hr : walkG P L.toArray Q S z l (a.put o.dst v) w) : walkG P L.toArray Q S z ((i, true) :: l) a w := ⟨o, v, by simpa using ho, .inl ⟨hw, h⟩, hr⟩
theorem walkG_do {L : List Oper} {i : Nat} {l : List (Nat × Bool)} {a : Act} {w : World} {o : Oper} (ho : L[i]? = some o) (hw : Region.wanted o (yielded L.toArray a.tmps) = true)
    (h : Oper.wp P o a w (fun a' w' => (i ≠ z → S w') ∧ walkG P L.toArray Q S z l a' w') Q) : walkG P L.toArray Q S z ((i, false) :: l) a w := by
  show wpOp P L.toArray Q i _ a w
  have ho' : L.toArray[i]? = some o := by simpa using ho
  unfold wpOp
  simp only [ho', hw, if_true]
  exact .inl h
theorem walkG_not {L : List Oper} {i : Nat} {l : List (Nat × Bool)} {a : Act} {w : World} {o : Oper} (ho : L[i]? = some o) (hw : Region.wanted o (yielded L.toArray a.tmps) = false)
    (hr : walkG P L.toArray Q S z l (a.put o.dst undef) w) : walkG P L.toArray Q S z ((i, true) :: l) a w := ⟨o, undef, by simpa using ho, .inr ⟨hw, rfl⟩, hr⟩
theorem walkG_skip {L : List Oper} {i : Nat} {l : List (Nat × Bool)} {a : Act} {w : World} {o : Oper} (ho : L[i]? = some o) (hw : Region.wanted o (yielded L.toArray a.tmps) = false)
    (hS : S w) (hr : walkG P L.toArray Q S z l (a.put o.dst undef) w) : walkG P L.toArray Q S z ((i, false) :: l) a w := by
  show wpOp P L.toArray Q i _ a w
  have ho' : L.toArray[i]? = some o := by simpa using ho
  unfold wpOp
  simp only [ho', hw]
  exact ⟨fun _ => hS, hr⟩
theorem of_step {c : Prop} [Decidable c] {X : Prop} (hc : c) (h : if c then X else True) : X := by rwa [if_pos hc] at h
end
end Go.Proofs.YtbbkinldfpphdaaGreatDoor
