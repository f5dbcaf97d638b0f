/- Items of an area: what they are laid as; area.Lay walked. -/
import Derived.Test.YtbbkinldfpphdaaGreatDoorB1
import Derived.Test.YtbbkinldfpphdaaGreatDoorRh
import Derived.Lib.AppendStr
import Derived.Deep.AppendLies
namespace Go.Proofs.YtbbkinldfpphdaaGreatDoor
open Go.RowKit Pl

abbrev It := Int × ByteArray
def mayI (x : It) : Prop := 1 < x.1 ∧ x.1 ≤ 255 ∧ x.2.size ≤ 253
instance (x : It) : Decidable (mayI x) := by unfold mayI; infer_instance
def itemL (x : It) : List UInt8 := UInt8.ofNat x.1.toNat :: UInt8.ofNat (2 + x.2.size) :: x.2.data.toList
def itemsL (xs : List It) : List UInt8 := xs.flatMap itemL
theorem itemsL_snoc (xs : List It) (x : It) : itemsL (xs ++ [x]) = itemsL xs ++ itemL x := by simp [itemsL]
theorem itemL_length (x : It) : (itemL x).length = 2 + x.2.size := by simp [itemL]; omega
def padN (n : Nat) : Nat := (4 - n % 4) % 4
def padL (l : List UInt8) : List UInt8 := l ++ List.replicate (padN l.length) 0
/-- What items are laid as. -/
def layI (xs : List It) : ByteArray × Nat :=
  if ∀ x ∈ xs, mayI x then (if 40 < (itemsL xs).length then (⟨#[]⟩, 6) else (⟨(padL (itemsL xs)).toArray⟩, 0)) else (⟨#[]⟩, 2)

/-- A slice of items. -/
def Items (w : World) (v : Value) (xs : List It) : Prop :=
  (xs = [] ∧ v = .slice none 0 0) ∨ ∃ g cap, v = .slice (some ⟨g, 0, none⟩) xs.length cap ∧ ∀ i x, xs[i]? = some x → w.cell? ⟨g, i * 2, none⟩ = some (.int .i64 x.1) ∧ w.cell? ⟨g, i * 2 + 1, none⟩ = some (.string x.2)
theorem Items.kept {w w' : World} {v : Value} {xs : List It} (h : Items w v xs) (hb : Below w.heap.size w w') : Items w' v xs := by
  rcases h with h | ⟨g, cap, h1, h2⟩
  · exact .inl h
  · refine .inr ⟨g, cap, h1, fun i x hx => ?_⟩
    obtain ⟨k1, k2⟩ := h2 i x hx
    exact ⟨(hb.cell (p := ⟨g, i * 2, none⟩) (block_lt_of_cell k1)).trans k1, (hb.cell (p := ⟨g, i * 2 + 1, none⟩) (block_lt_of_cell k2)).trans k2⟩

theorem wp_append_own_string {P : Program} {o : Oper} {a : Act} {w : World} {K : Act → World → Prop} {Q : Exit → Act → World → Prop} (sl x : Operand) (t u : TypeId)
    (ho : o.op = .call { callee := .builtin .append, args := #[sl, x], argTypes := #[t, u] })
    (base : Nat) (e : TypeId) (i : TypeInfo) (ht : P.underlying t = some (.slice e)) (hu : P.underlying u = some .string) (hi : P.info? e = some i) (hz : i.zero = some (.int .u8 0))
    (hsize : i.size = 1) (hby : i.bytes = 1)
    (v : Value) (n : Nat) (xs : List Value) (hs : a.eval sl = v) (hown : w.ownsRow base e 1 v n xs) (s : ByteArray) (hx : a.eval x = .string s)
    (h63 : n + s.size ≤ maxLen) (hbytes : n + s.size ≤ 140737488355328) (hbase : base ≤ w.heap.size)
    (h : ∀ v' w', w'.ownsRow base e 1 v' (n + s.size) (xs ++ cellsOf s.data.toList) → w.grownBy w' v.ownBlock → K (a.put o.dst v') w') : o.wp P a w K Q := by
  obtain ⟨v', w', hr, h2, h3, _⟩ := Lib.run_append_own_string (P := P) w base t u o.type e i ht hu hi hz hsize hby v n xs hown s h63 hbytes hbase
  unfold Oper.wp execOp
  simp only [ho, resolve, invoke, builtin, Sem.run_bind, Sem.run_pure, Result.andThen_ok, List.map_toArray, List.map_cons, List.map_nil, hs, hx, hr]
  exact h v' w' h2 h3

theorem item_cells (l : List UInt8) (kind : Int) (body : ByteArray) (h0 : 0 ≤ kind) (h1 : kind < 256) (h2 : body.size < 254) :
    cellsOf l ++ [Value.int .u8 kind, Value.int .u8 (2 + (body.size : Int))] ++ cellsOf body.data.toList = cellsOf (l ++ itemL (kind, body)) := by
  unfold cellsOf itemL
  simp only [List.map_append, List.map_cons, List.append_assoc, List.cons_append, List.nil_append]
  rw [UInt8.toNat_ofNat', UInt8.toNat_ofNat', Nat.mod_eq_of_lt (by omega), Nat.mod_eq_of_lt (by omega), Int.toNat_of_nonneg h0, Int.natCast_add]
  rfl
/-- Where the call stands in its drawn region: an item's two cells. -/
def SI (g : Nat) (x y : Value) (w : World) : Prop := w.cell? ⟨g, 0, none⟩ = some x ∧ w.cell? ⟨g, 1, none⟩ = some y
theorem SI.grown {g : Nat} {x y : Value} {w w' : World} {row : Option Nat} (h : SI g x y w) (hg : w.grownBy w' row) (hne : some g ≠ row) (hlt : g < w.heap.size) : SI g x y w' :=
  ⟨(World.cell?_of_block (hg.block g hlt hne)).trans h.1, (World.cell?_of_block (hg.block g hlt hne)).trans h.2⟩
set_option maxRecDepth 20000 in
set_option maxHeartbeats 4000000 in
theorem alay_any (v : Value) (xs : List It) (w : World) (h : Items w v xs) (hn : xs.length ≤ 1000) :
    Calls Tryz.prog 7 #[v] w fun e w' => e = .returned (.tuple #[.string (layI xs).1, .int .i64 (layI xs).2]) ∧ Below w.heap.size w w' := by
  obtain ⟨r, er⟩ : ∃ r, layI xs = r := ⟨_, rfl⟩
  obtain ⟨t, k⟩ := r
  rw [er]
  have HR := Lib.hid er
  clear er
  obtain ⟨j0, hi, hz0, hz1, hz2⟩ := info_parts info_u8
  have HI := Lib.hid h
  rcases h with ⟨rfl, rfl⟩ | ⟨g, cap, rfl, hc⟩
  · have hcv := own_conv (l := []) (World.ownsRow_nil w w.heap.size 5 1)
    clear HI
    go_enter Tryz.func7, Tryz.ntmps7
    go_wp2
    refine wp_loop_rounds 1 ?_
    rw [rounds_succ]
    go_wp2
    refine wp_loop_rounds 1 ?_
    rw [rounds_succ]
    go_wp2
    go_ret2
    exact ⟨by have h := HR.out; simp [layI, itemsL, padL, padN] at h; rw [← h.1, ← h.2]; rfl, Below.refl _ _⟩
  · have HC := Lib.hid hc
    obtain ⟨n, en⟩ : ∃ n, xs.length = n := ⟨_, rfl⟩
    rw [en] at hn ⊢
    have HN := Lib.hid en
    clear hc en
    go_enter Tryz.func7, Tryz.ntmps7
    go_wp2
    go_loopw [4, 9] (fun b i wr => ∃ (m : Nat) (l : List UInt8), m ≤ n ∧ i = .int .i64 m ∧ Hid (l = itemsL (xs.take m) ∧ (∀ x ∈ xs.take m, mayI x) ∧ l.length ≤ 255 * m) ∧ Hid (wr.ownsRow w.heap.size 5 1 b l.length (cellsOf l)) ∧ Hid (Below w.heap.size w wr)) (fun _ i _ => n - (intOf i).toNat)
    case atStart => exact ⟨0, [], Nat.zero_le _, rfl, ⟨rfl, by simp, by simp⟩, World.ownsRow_nil _ _ _ _, Below.refl _ _⟩
    case round =>
      obtain ⟨m, l, hm, rfl, HL, HO, HB⟩ := hrel
      by_cases hlt : m < n
      · have hml : m < xs.length := by rw [HN.out]; exact hlt
        obtain ⟨x, hx⟩ : ∃ x, xs[m]? = some x := ⟨_, List.getElem?_eq_getElem hml⟩
        obtain ⟨kind, body⟩ := x
        obtain ⟨k1, k2⟩ := HC.out m _ hx
        have c1 : wr.cell? ⟨g, m * 2, none⟩ = some (.int .i64 kind) := (HB.out.cell (p := ⟨g, m * 2, none⟩) (block_lt_of_cell k1)).trans k1
        have c2 : wr.cell? ⟨g, m * 2 + 1, none⟩ = some (.string body) := (HB.out.cell (p := ⟨g, m * 2 + 1, none⟩) (block_lt_of_cell k2)).trans k2
        have HX := Lib.hid hx
        clear k1 k2 hx
        have hmem : (kind, body) ∈ xs := List.mem_of_getElem? HX.out
        by_cases hmay : mayI (kind, body)
        · obtain ⟨q1, q2, q3⟩ := hmay
          have e1 : decide (kind ≤ 1) = false := by simp; exact q1
          have e2 : decide (255 < kind) = false := by simp; exact q2
          have e3 : decide (253 < (body.size : Int)) = false := by simp at q3 ⊢; omega
          have i1 : (0 : Int) ≤ kind := by simp at q1; omega
          have i2 : kind < 256 := by simp at q2; omega
          have i3 : body.size < 254 := by simp at q3; omega
          have i4 : IntKind.i64.wrap (2 + (body.size : Int)) = 2 + (body.size : Int) := IntWalk.i64_in _ (by omega)
          have i5 : IntKind.u8.wrap kind = kind := by rw [IntKind.wrap_u8]; omega
          have i6 : IntKind.u8.wrap (2 + (body.size : Int)) = 2 + (body.size : Int) := by rw [IntKind.wrap_u8]; omega
          have HM := Lib.hid (show mayI (kind, body) from ⟨q1, q2, q3⟩)
          clear q1 q2 q3 hmem
          go_upto_region 7 with fail
          obtain ⟨Wx, hWx⟩ : ∃ Wx, wr.alloc (.cells #[.int .i64 kind, .string body] 36) = Wx := ⟨_, rfl⟩
          have hA := At.of_new wr 36 #[.int .i64 kind, .string body]
          have hO := HO.out.alloc (.cells #[.int .i64 kind, .string body] 36)
          have hB := HB.out.alloc HB.out.size (.cells #[.int .i64 kind, .string body] 36)
          have hz : Wx.heap.size = wr.heap.size + 1 := by rw [← hWx]; simp
          rw [hWx] at hA hO hB ⊢
          have hS : SI wr.heap.size (.int .i64 kind) (.string body) Wx := ⟨hA.cell 0, hA.cell 1⟩
          have HS := Lib.hid hS
          have HO2 := Lib.hid hO
          have HB2 := Lib.hid hB
          have hlx : wr.heap.size < Wx.heap.size := by omega
          have HOlt := Lib.hid HO.out.lt
          clear hS hO hB hA hWx hz c1 c2 HO HB
          refine wp_region_order 15 [(0, true), (1, true), (2, true), (3, true), (4, true), (5, true), (6, true), (7, true), (8, true), (11, true), (12, true), (9, false), (10, false), (13, false), (14, true)] (SI wr.heap.size (.int .i64 kind) (.string body)) (by kernel_rfl) (by kernel_rfl) (last_none (by simp)) rfl (order_of_N (by kernel_rfl)) (fun _ _ _ _ _ h => h) HS.out ?_
          iterate 11
            refine walkG_val (v := ?_) rfl (by rfl) (fun w' hS => ?_) ?_
            rotate_left
            · have s1 := hS.1
              have s2 := hS.2
              clear hS
              go_simp
              exact rfl
            simp only [Act.put, List.setIfInBounds_toArray, List.set_cons_zero, List.set_cons_succ]
          refine walkG_do rfl (by rfl) ?_
          go_simp
          have hs0 : SI wr.heap.size (.int .i64 kind) (.string body) ((Wx.alloc (.cells #[.int .u8 kind, .int .u8 (2 + (body.size : Int))] 5)).drew) := ⟨(World.cell?_of_block (Below.heap_alloc Wx _ wr.heap.size hlx)).trans HS.out.1, (World.cell?_of_block (Below.heap_alloc Wx _ wr.heap.size hlx)).trans HS.out.2⟩
          refine ⟨hs0, ?_⟩
          have hl3 := HL.out.2.2
          have hXb : ∀ v' : Value, v'.ownBlock ≠ some wr.heap.size → some wr.heap.size ≠ v'.ownBlock := fun _ h => Ne.symm h
          refine walkG_do rfl (by rfl) (wp_append_lies _ _ _ _ rfl w.heap.size 5 j0 (.int .u8 0) 1 1 Tryz.underlying24 hi hz0 hz1 hz2 rfl (by decide) _ l.length (cellsOf l) rfl ((HO2.out.alloc _).drew) ⟨Wx.heap.size, 0, none⟩ 2 2 [.int .u8 kind, .int .u8 (2 + (body.size : Int))] rfl rfl
            (World.news_of_block (cs := #[.int .u8 kind, .int .u8 (2 + (body.size : Int))]) (t := 5) (fr := (0, 0)) (heap_alloc_new Wx _)) (by simp [Value.oneCell']) (by omega) (by simp [maxLen]; omega) (by omega) (by have := HB2.out.size; simp; omega) (Wx.heap.size + 1) (by simp) ?_)
          intro g1 cap1 w1 hown1 hgrow1 hat1 hlt1
          have hg1 : wr.heap.size ≠ g1 := by
            rcases hat1 with h | h
            · have := (HOlt.out _ h).2; omega
            · omega
          have hs1 : SI wr.heap.size (.int .i64 kind) (.string body) w1 := hs0.grown hgrow1 (fun e => by have := (HOlt.out _ e.symm).2; omega) (by simp; omega)
          have hb1 := ((HB2.out.alloc HB2.out.size _).drew).grown hgrow1 (by have := HB2.out.size; simp; omega) (fun k hk => (HOlt.out k hk).1)
          refine ⟨fun _ => hs1, ?_⟩
          simp only [Act.put, List.setIfInBounds_toArray, List.set_cons_zero, List.set_cons_succ]
          refine walkG_do rfl (by rfl) (wp_append_own_string _ _ _ _ rfl w.heap.size 5 j0 Tryz.underlying24 Tryz.underlying9 hi hz0 hz1 hz2 (.slice (some ⟨g1, 0, none⟩) (l.length + 2) cap1) (l.length + 2) _ rfl hown1 body rfl (by simp [maxLen]; omega) (by omega) hb1.size ?_)
          intro v2 w2 hown2 hgrow2
          have hlx1 : wr.heap.size < w1.heap.size := block_lt_of_cell (a := ⟨wr.heap.size, 0, none⟩) hs1.1
          have hs2 : SI wr.heap.size (.int .i64 kind) (.string body) w2 := hs1.grown hgrow2 (fun e => hg1 (by simpa [Value.ownBlock] using e)) hlx1
          have hb2 := hb1.grown hgrow2 hb1.size (fun k hk => by
            have e : g1 = k := by simpa [Value.ownBlock] using hk
            subst e
            rcases hat1 with h | h
            · exact (HOlt.out _ h).1
            · have := HB2.out.size; omega)
          refine ⟨fun _ => hs2, ?_⟩
          rw [item_cells l kind body i1 i2 i3] at hown2
          have HO3 := Lib.hid hown2
          have HB3 := Lib.hid hb2
          clear hs1 hs2 hb1 hb2 hown1 hown2 hgrow1 hgrow2
          simp only [Act.put, List.setIfInBounds_toArray, List.set_cons_zero, List.set_cons_succ]
          refine walkG_val (v := v2) rfl (by rfl) (fun w' hS => ?_) ?_
          · clear hS
            go_simp
          simp only [Act.put, List.setIfInBounds_toArray, List.set_cons_zero, List.set_cons_succ]
          simp only [walkG]
          go_wp2_with fail
          refine ⟨⟨m + 1, l ++ itemL (kind, body), by omega, int_eq (by omega), ?_, ?_, HB3.out⟩, by simp [intOf]; omega⟩
          · have e : xs.take (m + 1) = xs.take m ++ [(kind, body)] := by rw [List.take_add_one, HX.out]; rfl
            refine ⟨?_, ?_, ?_⟩
            · rw [e, itemsL_snoc, ← HL.out.1]
            · rw [e]
              intro x hx
              rcases List.mem_append.1 hx with hx | hx
              · exact HL.out.2.1 x hx
              · rw [List.mem_singleton.1 hx]; exact HM.out
            · rw [List.length_append, itemL_length]
              show l.length + (2 + body.size) ≤ _
              omega
          · have e : (l ++ itemL (kind, body)).length = l.length + 2 + body.size := by rw [List.length_append, itemL_length]; show l.length + (2 + body.size) = _; omega
            show w2.ownsRow _ _ _ _ _ _
            rw [e]; exact HO3.out
        · have HT : Hid (t = ⟨#[]⟩ ∧ k = 2) := by
            have h := HR.out
            unfold layI at h
            rw [if_neg (fun hall => hmay (hall _ hmem))] at h
            exact ⟨(Prod.mk.inj h).1.symm, (Prod.mk.inj h).2.symm⟩
          have HBx := Lib.hid (HB.out.alloc HB.out.size (.cells #[.int .i64 kind, .string body] 36))
          have hmay' : kind ≤ 1 ∨ 255 < kind ∨ 253 < body.size := by
            unfold mayI at hmay
            simp only at hmay
            omega
          clear hmay hmem HO HL
          by_cases q1 : kind ≤ 1
          · have e1 : decide (kind ≤ 1) = true := by simp; exact q1
            go_wp2
            go_ret2
            exact ⟨by rw [HT.out.1, HT.out.2]; rfl, HBx.out⟩
          · have e1 : decide (kind ≤ 1) = false := by simp; omega
            by_cases q2 : 255 < kind
            · have e2 : decide (255 < kind) = true := by simp; exact q2
              go_wp2
              go_ret2
              exact ⟨by rw [HT.out.1, HT.out.2]; rfl, HBx.out⟩
            · have e2 : decide (255 < kind) = false := by simp; omega
              have e3 : decide (253 < (body.size : Int)) = true := by simp; omega
              go_wp2
              go_ret2
              exact ⟨by rw [HT.out.1, HT.out.2]; rfl, HBx.out⟩
      · have hall : Hid (l = itemsL xs ∧ (∀ x ∈ xs, mayI x) ∧ l.length ≤ 255000) := by
          have e : xs.take m = xs := List.take_of_length_le (by rw [HN.out]; omega)
          have h := HL.out
          rw [e] at h
          exact ⟨h.1, h.2.1, by have := h.2.2; omega⟩
        have HR2 : Hid ((if 40 < l.length then ((⟨#[]⟩ : ByteArray), 6) else (⟨(padL l).toArray⟩, 0)) = (t, k)) := by
          have h := HR.out
          unfold layI at h
          rw [if_pos hall.out.2.1, ← hall.out.1] at h
          exact h
        have hl255 := hall.out.2.2
        have hge : ¬ m < n := hlt
        clear HL HR HC HN HI hall
        rcases HO.out.2 with ⟨hv, hl0⟩ | ⟨g2, cap2, cur2, hv, _⟩
        · subst hv
          have hl : l = [] := List.eq_nil_of_length_eq_zero hl0
          subst hl
          have hcv := own_conv HO.out
          go_wp2
          refine wp_loop_rounds 1 ?_
          rw [rounds_succ]
          go_wp2
          go_ret2
          exact ⟨by have h := HR2.out; simp [padL, padN] at h; rw [← h.1, ← h.2]; rfl, HB.out⟩
        · subst hv
          obtain ⟨L, eL⟩ : ∃ L, l.length = L := ⟨_, rfl⟩
          rw [eL] at HO hl255 ⊢
          by_cases h40 : 40 < L
          · have e1 : decide (40 < (L : Int)) = true := by simp; omega
            have HT : Hid (t = ⟨#[]⟩ ∧ k = 6) := by
              have h := HR2.out
              rw [eL, if_pos h40] at h
              exact ⟨(Prod.mk.inj h).1.symm, (Prod.mk.inj h).2.symm⟩
            clear eL HR2 HO
            go_wp2
            go_ret2
            exact ⟨by rw [HT.out.1, HT.out.2]; rfl, HB.out⟩
          · have e1 : decide (40 < (L : Int)) = false := by simp; omega
            have HT : Hid ((⟨(l ++ List.replicate (padN L) 0).toArray⟩ : ByteArray) = t ∧ 0 = k) := by
              have h := HR2.out
              rw [eL, if_neg h40] at h
              unfold padL at h
              rw [eL] at h
              exact ⟨(Prod.mk.inj h).1, (Prod.mk.inj h).2⟩
            have HLl := Lib.hid eL
            clear eL HR2
            go_wp2
            go_loopw [4] (fun b wr => ∃ (j : Nat) (g3 cap3 : Nat), j ≤ padN L ∧ b = .slice (some ⟨g3, 0, none⟩) (L + j) cap3 ∧ Hid (wr.ownsRow w.heap.size 5 1 (.slice (some ⟨g3, 0, none⟩) (L + j) cap3) (L + j) (cellsOf (l ++ List.replicate j 0))) ∧ Hid (Below w.heap.size w wr)) (fun b _ => match b with | .slice _ n _ => L + 4 - n | _ => 0)
            case atStart => exact ⟨0, g2, cap2, Nat.zero_le _, rfl, by simpa using HO, HB⟩
            case round =>
              clear HO HB
              obtain ⟨j, g3, cap3, hj, rfl, HO, HB⟩ := hrel
              have hp4 : padN L ≤ 3 := by unfold padN; omega
              by_cases hmod : (L + j) % 4 = 0
              · have e2 : (((L : Int) + (j : Int)) % 4 == 0) = true := by rw [beq_iff_eq]; omega
                have e2' : (((L : Int) + (j : Int)) % 4 != 0) = false := by rw [bne_eq_false_iff_eq]; omega
                have e3 : (((L + j : Nat) : Int) % 4 == 0) = true := by rw [beq_iff_eq]; omega
                have e3' : (((L + j : Nat) : Int) % 4 != 0) = false := by rw [bne_eq_false_iff_eq]; omega
                have hcv := own_conv HO.out
                have hjp : j = padN L := by unfold padN at hj ⊢; omega
                have HJ := Lib.hid hjp
                clear hjp
                go_wp2
                go_ret2
                exact ⟨by rw [← HT.out.1, ← HT.out.2, HJ.out]; rfl, HB.out⟩
              · have e2 : (((L : Int) + (j : Int)) % 4 == 0) = false := by rw [beq_eq_false_iff_ne]; omega
                have e2' : (((L : Int) + (j : Int)) % 4 != 0) = true := by rw [bne_iff_ne]; omega
                have e3 : (((L + j : Nat) : Int) % 4 == 0) = false := by rw [beq_eq_false_iff_ne]; omega
                have e3' : (((L + j : Nat) : Int) % 4 != 0) = true := by rw [bne_iff_ne]; omega
                have hjlt : j < padN L := by
                  rcases Nat.lt_or_ge j (padN L) with h | h
                  · exact h
                  · exfalso; unfold padN at h hj; omega
                have HOlt := Lib.hid HO.out.lt
                go_wp2_with (at_builtin; refine wpList_append_lies _ rfl _ _ 24 rfl w.heap.size 5 j0 (.int .u8 0) 1 1 Tryz.underlying24 hi hz0 hz1 hz2 rfl (by decide) _ (L + j) (cellsOf (l ++ List.replicate j 0)) rfl (HO.out.alloc _) ⟨wr.heap.size, 0, none⟩ 1 1 [.int .u8 0] rfl rfl ?c1 ?c2 ?c0 ?c3 ?c4 ?c5 (wr.heap.size + 1) (by simp) ?_)
                case c1 => exact World.news_of_block (cs := #[.int .u8 0]) (t := 5) (fr := (0, 0)) (heap_alloc_new wr _)
                case c2 => simp [Value.oneCell']
                case c0 => omega
                case c3 => simp [maxLen]; omega
                case c4 => omega
                case c5 => have := HB.out.size; simp; omega
                intro g4 cap4 w4 hown4 hgrow4 hat4 hlt4
                have hb4 := (HB.out.alloc HB.out.size (.cells #[.int .u8 0] 5)).grown hgrow4 (by have := HB.out.size; simp; omega) (fun k hk => (HOlt.out k hk).1)
                have HB4 := Lib.hid hb4
                have HO4 := Lib.hid hown4
                clear hb4 hown4 hgrow4 hat4
                go_wp2_with fail
                refine ⟨⟨j + 1, g4, cap4, hjlt, by rw [Nat.add_assoc], ?_, HB4.out⟩, by simp; omega⟩
                show w4.ownsRow _ _ _ _ _ _
                have h := HO4.out
                rw [List.replicate_succ', ← List.append_assoc, cellsOf, List.map_append]
                exact h
end Go.Proofs.YtbbkinldfpphdaaGreatDoor
