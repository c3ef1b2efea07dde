/- lattice: numbered. -/
import Derived.Test.YtpjlhpaenmfieaaGreatLatD
namespace Go.Proofs.YtpjlhpaenmfieaaGreat
open Go.RowKit

theorem info_pair : ∃ i, Tryz.prog.info? 123 = some i ∧ i.zero = some (.agg #[.int .i64 0, .int .i64 0]) ∧ i.size = 2 ∧ i.bytes = 16 :=
  info_parts3 (a := 2) (b := 16) (v := .agg #[.int .i64 0, .int .i64 0]) (s := 2) (by kernel_rfl)
theorem pairCells_append (l m : List (Int × Int)) : pairCells (l ++ m) = pairCells l ++ pairCells m := by simp [pairCells]
theorem pairCells_one (l : List (Int × Int)) : ∀ u ∈ pairCells l, u.oneCell' = true := by
  intro u hu
  simp only [pairCells, List.mem_flatMap] at hu
  obtain ⟨p, _, hu⟩ := hu
  simp at hu
  rcases hu with rfl | rfl <;> rfl
theorem reads_pair (w : World) (t : TypeId) (x y : Int) (g : Nat) (hg : g = w.heap.size) : Reads (w.alloc (.cells #[.int .i64 x, .int .i64 y] t)) (g + 1) 2 (some ⟨g, 0, none⟩) 1 (pairCells [(x, y)]) := by
  subst hg
  refine ⟨rfl, fun _ => ⟨_, rfl, by simp, fun j u hu => ?_⟩⟩
  have e : (⟨w.heap.size, 0, none⟩ : Addr).add j = ⟨w.heap.size, j, none⟩ := by unfold Addr.add; split <;> simp_all
  rw [e, World.cell?_alloc_new]
  simpa [pairCells] using hu
/-- append of one pair that has just been laid. -/
theorem wpList_append_P (w : World) {ops : Array Oper} {rest : List Oper} {o : Oper} {a : Act} {Q : Exit → Act → World → Prop} (hgd : o.guard = none) (s x : Operand)
    (ho : o.op = .call { callee := .builtin .append, args := #[s, x], argTypes := #[79, 79] })
    (base : Nat) (v : Value) (n : Nat) (l : List (Int × Int)) (hs : a.eval s = v) (B : Nat) (A : Option Addr) (c : Nat) (p : Int × Int) (hx : a.eval x = .slice A 1 c)
    (hown : w.ownsRow base 123 2 v n (pairCells l)) (hr : Reads w B 2 A 1 (pairCells [p])) (hn : n ≤ 1000000) (hbase : base ≤ w.heap.size)
    (h : ∀ A' c' w', w'.ownsRow base 123 2 (.slice A' (n + 1) c') (n + 1) (pairCells (l ++ [p])) → w.grownBy w' v.ownBlock → (Value.ownBlock (.slice A' (n + 1) c') = v.ownBlock ∨ Value.ownBlock (.slice A' (n + 1) c') = some w.heap.size) → wpList Tryz.prog ops Q rest (a.put o.dst (.slice A' (n + 1) c')) w') : wpList Tryz.prog ops Q (o :: rest) a w := by
  obtain ⟨i0, hi, hz, hs2, hb⟩ := info_pair
  refine wpList_append_sl w hgd s x 79 ho base 123 i0 _ 2 16 Tryz.underlying79 hi hz hs2 hb rfl (by decide) v n (pairCells l) hs hown B A 1 c (pairCells [p]) hx hr (pairCells_one _) (by unfold maxLen; omega) (by omega) hbase ?_
  rw [← pairCells_append]
  exact h

theorem findR_two (l : List ByteArray) (s : ByteArray) :
    (findL l s < 0 ∧ findR l s = .tuple #[.int .i64 0, .bool false]) ∨ ∃ k : Nat, findL l s = k ∧ findR l s = .tuple #[.int .i64 (k : Nat), .bool true] := by
  unfold findR
  by_cases h : findL l s < 0
  · left; rw [if_pos h]; refine ⟨h, ?_⟩; rw [decide_eq_false (by omega)]
  · right
    obtain ⟨k, hk⟩ := Int.eq_ofNat_of_zero_le (show 0 ≤ findL l s by omega)
    exact ⟨k, hk, by rw [hk, if_neg (by omega), decide_eq_true (by omega)]⟩

theorem next_order {ws : List Wd} {os : List (Wd × Wd)} {k : Nat} :
    (findL (nms ws) (lo os k).1 < 0 → orderBad ws os k = some (17, (lo os k).2)) ∧
    (¬ findL (nms ws) (lo os k).1 < 0 → findL (nms ws) (hi os k).1 < 0 → orderBad ws os k = some (17, (hi os k).2)) ∧
    (¬ findL (nms ws) (lo os k).1 < 0 → ¬ findL (nms ws) (hi os k).1 < 0 → orderBad ws os k = none) := by
  unfold orderBad
  exact ⟨fun h => if_pos h, fun h h2 => by rw [if_neg h, if_pos h2], fun h h2 => by rw [if_neg h, if_neg h2]⟩
theorem prs_take (ws : List Wd) (os : List (Wd × Wd)) (k : Nat) (hk : k < os.length) : (prs ws os).take (k + 1) = (prs ws os).take k ++ [(findL (nms ws) (lo os k).1, findL (nms ws) (hi os k).1)] := by
  rw [List.take_succ_eq_append_getElem (by rw [prs_length]; exact hk), prs_at]

def NumberedPost (ws : List Wd) (os : List (Wd × Wd)) (m : Nat) (w : World) (e : Ending) (w' : World) : Prop :=
  (∃ x, firstOf (orderBad ws os) m = some x ∧ e = .returned (.tuple #[.slice none 0 0, fltV x]) ∧ Ext w w') ∨
  (firstOf (orderBad ws os) m = none ∧ ∃ A c, e = .returned (.tuple #[.slice A m c, fltV (0, 0)]) ∧ PairsAt w' w'.heap.size A (prs ws os) ∧ Ext w w')

set_option maxRecDepth 100000 in
set_option maxHeartbeats 2000000 in
theorem numbered_any (g : Nat) (ws : List Wd) (A : Option Addr) (c m : Nat) (os : List (Wd × Wd)) (w : World) (hT : TabAt w g (nms ws)) (hws : ws.length ≤ 1000) (h : OdsAt w w.heap.size A os) (hm : m = os.length) (hle : m ≤ 1000) :
    Calls Tryz.prog 35 #[.pointer (some ⟨g, 0, none⟩), .slice A m c] w (NumberedPost ws os m w) := by
  have HN := hide hm
  have HW := hide h
  have HT := hide hT
  have HF := hide (fun (w1 : World) (s : ByteArray) (h : Ext w w1) => tabFind_any g (nms ws) s w1 (hT.ext h) (by rw [nms_length]; omega))
  clear hm h hT
  go_enter Tryz.func35, Tryz.ntmps35
  go_wp2_with fail
  go_loopw [14, 6] (fun i o wr => ∃ (k : Nat) (Ao : Option Addr) (co : Nat), k ≤ m ∧ i = .int .i64 k ∧ o = .slice Ao k co ∧ Ext w wr ∧ Blk wr w.heap.size 31 #[.int .i64 0, .int .i64 0] ∧ wr.ownsRow (w.heap.size + 1) 123 2 (.slice Ao k co) k (pairCells ((prs ws os).take k)) ∧ Hid (∀ j, j < k → orderBad ws os j = none)) (fun i _ _ => m - (intOf i).toNat)
  case atStart => exact ⟨0, none, 0, Nat.zero_le _, rfl, rfl, (Ext.rfl' w).alloc (Nat.le_refl _) _, Blk.new _ _ _, World.ownsRow_nil _ _ _ _, fun j hj => absurd hj (by omega)⟩
  case round =>
    obtain ⟨k, Ao, co, hk, rfl, rfl, hE, hB, hO, HA⟩ := hrel
    have HE := hide hE
    have HB := hide hB
    have HO := hide hO
    have hs := hB.lt
    by_cases hlt : k < m
    · have hkl : k < os.length := by rw [← HN.out]; exact hlt
      obtain ⟨b, o, rfl, hbs, hcell⟩ := HW.out.cell (by omega)
      obtain ⟨hp1, hp2, hp3, hp4⟩ := hcell k hkl
      obtain ⟨hn1, hn2, hn3⟩ := next_order (ws := ws) (os := os) (k := k)
      have hst := prs_take ws os k hkl
      have hf1 := findR_two (nms ws) (lo os k).1
      have hf2 := findR_two (nms ws) (hi os k).1
      obtain ⟨x, hx⟩ : ∃ x, x = (lo os k).1 := ⟨_, rfl⟩
      obtain ⟨p, hp⟩ : ∃ p, p = (lo os k).2 := ⟨_, rfl⟩
      obtain ⟨y, hy⟩ : ∃ x, x = (hi os k).1 := ⟨_, rfl⟩
      obtain ⟨q, hq⟩ : ∃ p, p = (hi os k).2 := ⟨_, rfl⟩
      rw [← hx] at hp1 hn1 hn2 hn3 hst hf1
      rw [← hp] at hp2 hn1
      rw [← hy] at hp3 hn2 hn3 hst hf2
      rw [← hq] at hp4 hn2
      have q1 : wr.cell? ⟨b, o + k * 4, none⟩ = some (.string x) := (hE.cell (p := ⟨b, o + k * 4, none⟩) hbs).trans hp1
      have q2 : wr.cell? ⟨b, o + k * 4 + 1, none⟩ = some (.int .i64 p) := (hE.cell (p := ⟨b, o + k * 4 + 1, none⟩) hbs).trans hp2
      have q3 : wr.cell? ⟨b, o + k * 4 + 2, none⟩ = some (.string y) := (hE.cell (p := ⟨b, o + k * 4 + 2, none⟩) hbs).trans hp3
      have q4 : wr.cell? ⟨b, o + k * 4 + 3, none⟩ = some (.int .i64 q) := (hE.cell (p := ⟨b, o + k * 4 + 3, none⟩) hbs).trans hp4
      obtain ⟨f1, hf1e⟩ : ∃ f, f = findL (nms ws) x := ⟨_, rfl⟩
      obtain ⟨f2, hf2e⟩ : ∃ f, f = findL (nms ws) y := ⟨_, rfl⟩
      have HF1 := hide (fun w1 h => HF.out w1 x h)
      have HF2 := hide (fun w1 h => HF.out w1 y h)
      obtain ⟨r1, hr1⟩ : ∃ f, f = findR (nms ws) x := ⟨_, rfl⟩
      obtain ⟨r2, hr2⟩ : ∃ f, f = findR (nms ws) y := ⟨_, rfl⟩
      rw [← hf1e, ← hr1] at hf1
      rw [← hf2e, ← hr2] at hf2
      rw [← hr1] at HF1
      rw [← hr2] at HF2
      rw [← hf1e] at hn1 hn2 hn3 hst
      rw [← hf2e] at hn2 hn3 hst
      have H1 := hide hn1
      have H2 := hide hn2
      have H3 := hide hn3
      have HST := hide hst
      have HG2 := hide hf2
      clear hst hp1 hp2 hp3 hp4 hcell hE hB hO hx hp hy hq hn1 hn2 hn3 hf1e hf2e hr1 hr2 hf2
      rcases hf1 with ⟨h1, rfl⟩ | ⟨k1, rfl, rfl⟩
      · have HX := hide (firstOf_hit (n := m) hlt HA.out (H1.out h1))
        clear H1 H2 H3 HG2
        go_wp2_with fail
        refine (HF1.out _ (HE.out.alloc HE.out.size _)).mono ?_
        rintro e w4 ⟨rfl, hE4⟩
        have HE4 := hide (Ext.trans' (HE.out.alloc HE.out.size _) hE4)
        have hB4 := (HB.out.alloc (.cells #[.string x, .int .i64 p, .string y, .int .i64 q] 68)).ext hE4
        have hV4 := (Blk.new wr 68 #[.string x, .int .i64 p, .string y, .int .i64 q]).ext hE4
        have HO4 := hide (own_ext (HO.out.alloc _) hE4)
        have f0 := hB4.free 0
        have f1' := hB4.free 1
        have b0 := hB4.cell 0
        have b1 := hB4.cell 1
        have v1 := hV4.cell 1
        have v2 := hV4.cell 2
        have v3 := hV4.cell 3
        simp only [List.getElem?_toArray, List.getElem?_cons_zero, List.getElem?_cons_succ] at b0 b1 v1 v2 v3
        have HB4 := hide hB4
        have HV4 := hide hV4
        have z4 := HE4.out.size
        have l4 := hB4.lt
        clear hB4 hV4 hE4
        go_wp2_with fail
        go_region
        go_wp2_with fail
        exact val_flt_ret (f := (17, p)) (g := w.heap.size) ((HB4.out.set_ 0 _).set_ 1 _) rfl rfl rfl rfl (.inl ⟨_, HX.out, rfl, (ext_two HE4.out _ _).drew'⟩)
      · have hk1 : ¬ ((k1 : Int) < 0) := by omega
        have HX2 := hide (H2.out hk1)
        have HX3 := hide (H3.out hk1)
        clear H1 H2 H3
        go_wp2_with fail
        refine (HF1.out _ (HE.out.alloc HE.out.size _)).mono ?_
        rintro e w4 ⟨rfl, hE4⟩
        have HE4 := hide (Ext.trans' (HE.out.alloc HE.out.size _) hE4)
        have hB4 := (HB.out.alloc (.cells #[.string x, .int .i64 p, .string y, .int .i64 q] 68)).ext hE4
        have hV4 := (Blk.new wr 68 #[.string x, .int .i64 p, .string y, .int .i64 q]).ext hE4
        have HO4 := hide (own_ext (HO.out.alloc _) hE4)
        have f0 := hB4.free 0
        have f1' := hB4.free 1
        have b0 := hB4.cell 0
        have b1 := hB4.cell 1
        have v1 := hV4.cell 1
        have v2 := hV4.cell 2
        have v3 := hV4.cell 3
        simp only [List.getElem?_toArray, List.getElem?_cons_zero, List.getElem?_cons_succ] at b0 b1 v1 v2 v3
        have HB4 := hide hB4
        have HV4 := hide hV4
        have z4 := HE4.out.size
        have l4 := hB4.lt
        clear hB4 hV4 hE4
        go_wp2_with fail
        refine (HF2.out _ HE4.out).mono ?_
        rintro e w5 ⟨rfl, hE5⟩
        have HE5 := hide (HE4.out.trans' hE5)
        have hB5 := HB4.out.ext hE5
        have hV5 := HV4.out.ext hE5
        have HO5 := hide (own_ext HO4.out hE5)
        have g0 := hB5.free 0
        have g1 := hB5.free 1
        have c0 := hB5.cell 0
        have c1 := hB5.cell 1
        have u3 := hV5.cell 3
        simp only [List.getElem?_toArray, List.getElem?_cons_zero, List.getElem?_cons_succ] at c0 c1 u3
        have HB5 := hide hB5
        have l5 := hB5.lt
        clear hB5 hV5 hE5 b0 b1 v1 v2 v3 f0 f1'
        rcases HG2.out with ⟨h2, rfl⟩ | ⟨k2, rfl, rfl⟩
        · have HX := hide (firstOf_hit (n := m) hlt HA.out (HX2.out h2))
          clear HX2 HX3 HG2
          go_wp2_with fail
          go_region
          go_wp2_with fail
          exact val_flt_ret (f := (17, q)) (g := w.heap.size) ((HB5.out.set_ 0 _).set_ 1 _) rfl rfl rfl rfl (.inl ⟨_, HX.out, rfl, (ext_two HE5.out _ _).drew'⟩)
        · have HA2 := hide (below_step HA.out (HX3.out (by omega)))
          clear HX2 HX3 HG2
          go_wp2_with (at_builtin; refine wpList_append_P _ rfl _ _ rfl (w.heap.size + 1) _ k ((prs ws os).take k) rfl (w5.heap.size + 1) (some ⟨w5.heap.size, 0, none⟩) 1 ((k1 : Int), (k2 : Int)) rfl (HO5.out.alloc _) (reads_pair _ _ _ _ _ rfl) (by omega) (by simp; omega) ?_)
          intro A3 c3 w6 hown6 hgrow6 _
          have HE6 := hide (grown_ext' (w := w) (wr := w5) (base := w.heap.size + 1) HE5.out ((Ext.rfl' w5).alloc (Nat.le_refl _) _) hgrow6 HO5.out (by omega))
          have HB6 := hide (grown_blk (HB5.out.alloc _) hgrow6 HO5.out (.inl (by omega)))
          rw [← HST.out] at hown6
          have HO6 := hide hown6
          clear hown6 hgrow6
          go_wp2_with fail
          go_roundw
          case rel => exact ⟨k + 1, A3, c3, by omega, by go_num, rfl, HE6.out, HB6.out, HO6.out, HA2.out⟩
          case measure => simp [intOf]; omega
    · obtain rfl : k = m := by omega
      have HX := hide (firstOf_miss.2 HA.out)
      have hlen : k = (prs ws os).length := by rw [prs_length]; exact HN.out
      have hO' := hO
      rw [List.take_of_length_le (by omega)] at hO'
      have HO' := hide hO'
      have HL := hide hlen
      have b0 := hB.cell 0
      have b1 := hB.cell 1
      have f0 := hB.free 0
      have f1 := hB.free 1
      simp only [List.getElem?_toArray, List.getElem?_cons_zero, List.getElem?_cons_succ] at b0 b1
      clear hlen hO' hO hB hE
      go_wp2_with fail
      have hsa : ∀ u v, PairsAt ((wr.setCell ⟨w.heap.size, 0, none⟩ u).setCell ⟨w.heap.size, 1, none⟩ v) ((wr.setCell ⟨w.heap.size, 0, none⟩ u).setCell ⟨w.heap.size, 1, none⟩ v).heap.size Ao (prs ws os) := fun u v => by
        unfold PairsAt
        rw [← HL.out]
        exact Reads.of_own (ownsRow_setCell_below (ownsRow_setCell_below HO'.out (by show w.heap.size < _; omega) u) (by show w.heap.size < _; omega) v)
      exact val_flt_ret (f := (0, 0)) (g := w.heap.size) ((HB.out.set_ 0 _).set_ 1 _) rfl rfl rfl rfl (.inr ⟨HX.out, _, _, rfl, hsa _ _, ext_two HE.out _ _⟩)
end Go.Proofs.YtpjlhpaenmfieaaGreat
