/- labels: Of, Sees, walked. -/
import Derived.Test.YtpjlhpaenmfieaaGreatLatQ
import Derived.Test.YtpjlhpaenmfieaaGreatLatPl
namespace Go.Proofs.YtpjlhpaenmfieaaGreat
open Go.RowKit

theorem findL_case (l : List ByteArray) (s : ByteArray) : (findL l s = -1 ∧ findR l s = .tuple #[.int .i64 0, .bool false]) ∨ ∃ i : Nat, i < l.length ∧ findL l s = i ∧ findR l s = .tuple #[.int .i64 i, .bool true] := by
  unfold findR findL
  cases h : l.findIdx? (fun x => decide (x = s)) with
  | none => exact .inl ⟨rfl, rfl⟩
  | some i =>
    refine .inr ⟨i, ?_, rfl, ?_⟩
    · obtain ⟨hi, _⟩ := List.findIdx?_eq_some_iff_getElem.1 h
      exact hi
    · dsimp only
      rw [if_neg (by omega)]
      simp

/-- The first word that is no level's. -/
def ofBad (ws us : List Wd) (i : Nat) : Option (Int × Int) := if findL (nms ws) (wNm us i) < 0 then some (17, wPl us i) else none
/-- The levels that words name. -/
def ofIdx (ws us : List Wd) (k : Nat) : List Nat := (List.range k).map fun i => (findL (nms ws) (wNm us i)).toNat
theorem ofIdx_succ (ws us : List Wd) (k : Nat) : ofIdx ws us (k + 1) = ofIdx ws us k ++ [(findL (nms ws) (wNm us k)).toNat] := by
  unfold ofIdx
  rw [List.range_succ, List.map_append]
  rfl
theorem ofBad_none {ws us : List Wd} {i : Nat} (h : ofBad ws us i = none) : ∃ q : Nat, q < ws.length ∧ findL (nms ws) (wNm us i) = q := by
  unfold ofBad at h
  rcases findL_case (nms ws) (wNm us i) with ⟨e, _⟩ | ⟨q, hq, e, _⟩
  · rw [e, if_pos (by omega)] at h; cases h
  · exact ⟨q, by rw [nms_length] at hq; exact hq, e⟩
theorem ofIdx_lt {ws us : List Wd} {k : Nat} (h : ∀ j, j < k → ofBad ws us j = none) : ∀ x ∈ ofIdx ws us k, x < ws.length := by
  intro x hx
  unfold ofIdx at hx
  obtain ⟨i, hi, rfl⟩ := List.mem_map.1 hx
  obtain ⟨q, hq, e⟩ := ofBad_none (h i (List.mem_range.1 hi))
  rw [e]; simpa using hq
def ofF (ws us : List Wd) : Int × Int := match firstOf (ofBad ws us) us.length with | some x => x | none => (0, 0)
def ofI (ws : List Wd) (os : List (Wd × Wd)) (us : List Wd) : Int := match firstOf (ofBad ws us) us.length with | some _ => 0 | none => (LatM.allJoin ws.length (leqL ws os) (ofIdx ws us us.length) : Nat)

set_option maxRecDepth 100000 in
set_option maxHeartbeats 2000000 in
theorem labOf_any (g : Nat) (ws : List Wd) (os : List (Wd × Wd)) (A : Option Addr) (c m : Nat) (us : List Wd) (w : World) (h : LatAt w g ws os) (h32 : ws.length ≤ 32) (hlat : LatM.Lat ws.length (leqL ws os)) (hu : WdsAt w w.heap.size A us) (hm : m = us.length) (hm' : m ≤ 9223372036854775807) :
    Calls Tryz.prog 21 #[.pointer (some ⟨g, 0, none⟩), .slice A m c] w (fun e w' => e = .returned (.tuple #[.int .i64 (ofI ws os us), fltV (ofF ws us)]) ∧ Ext w w') := by
  have HM := hide hm
  have HU := hide hu
  have HLAT := hide hlat
  have HBot := hide (fun (w1 : World) (hE : Ext w w1) => latBottom_any g ws os w1 (h.ext hE) h32 hlat.turn)
  have HFnd := hide (fun (w1 : World) (hE : Ext w w1) (s : ByteArray) => latFind_any g ws os w1 (h.ext hE) (by omega) s)
  have HJn := hide (fun (w1 : World) (hE : Ext w w1) (x y : Nat) (hx : x < ws.length) (hy : y < ws.length) => (by have := latJoin_any g ws os w1 (h.ext hE) h32 x y; rw [joinI_nat hx hy, (LatM.jn_eq hlat hx hy).1] at this; exact this : Calls Tryz.prog 58 #[.pointer (some ⟨g, 0, none⟩), .int .i64 x, .int .i64 y] w1 (fun e w' => e = .returned (.int .i64 ((LatM.jn ws.length (leqL ws os) x y : Nat) : Int)) ∧ w1 = w')))
  have hE1 : Ext w (w.alloc (.cells #[.int .i64 0, .int .i64 0] 31)) := (Ext.rfl' w).alloc (Nat.le_refl _) _
  have HB1 := hide (HBot.out _ hE1)
  have HT0 := hide (show LatM.topN ws.length (turnL (leqL ws os)) = LatM.allJoin ws.length (leqL ws os) (ofIdx ws us 0) from rfl)
  obtain ⟨bt, hbt⟩ : ∃ b, b = LatM.topN ws.length (turnL (leqL ws os)) := ⟨_, rfl⟩
  rw [← hbt] at HB1 HT0
  clear hm hu hlat h h32 HBot hbt hE1
  go_enter Tryz.func21, Tryz.ntmps21
  go_wp2_with fail
  refine HB1.out.mono ?_
  rintro e w' ⟨rfl, rfl⟩
  clear HB1
  go_wp2_with fail
  go_loopw [18, 6] (fun i o wr => ∃ k t : Nat, k ≤ m ∧ i = .int .i64 k ∧ o = .int .i64 t ∧ Ext w wr ∧ Blk wr w.heap.size 31 #[.int .i64 0, .int .i64 0] ∧ Hid (∀ j, j < k → ofBad ws us j = none) ∧ Hid (t = LatM.allJoin ws.length (leqL ws os) (ofIdx ws us k))) (fun i _ _ => m - (intOf i).toNat)
  case atStart => exact ⟨0, bt, Nat.zero_le _, rfl, rfl, (Ext.rfl' w).alloc (Nat.le_refl _) _, Blk.new _ _ _, fun j hj => absurd hj (by omega), HT0.out⟩
  case round =>
    obtain ⟨k, t, hk, rfl, rfl, hE, hB, HA, HT⟩ := hrel
    have HE := hide hE
    have HB := hide hB
    by_cases hlt : k < m
    · have hkl : k < us.length := by rw [← HM.out]; exact hlt
      obtain ⟨b, o, rfl, hbs, hcell⟩ := HU.out.cell (by omega)
      obtain ⟨hp1, hp2⟩ := hcell k hkl
      have htn : t < ws.length := by rw [HT.out]; exact LatM.allJoin_lt HLAT.out (ofIdx_lt HA.out)
      have hcase := findL_case (nms ws) (wNm us k)
      have hbad : findL (nms ws) (wNm us k) = -1 → ofBad ws us k = some (17, wPl us k) := fun e => by unfold ofBad; rw [e, if_pos (by omega)]
      have hgood : ∀ q : Nat, findL (nms ws) (wNm us k) = q → ofBad ws us k = none ∧ ofIdx ws us (k + 1) = ofIdx ws us k ++ [q] := fun q e => ⟨by unfold ofBad; rw [e, if_neg (by omega)], by rw [ofIdx_succ, e]; rfl⟩
      obtain ⟨x, hx⟩ : ∃ x, x = wNm us k := ⟨_, rfl⟩
      obtain ⟨p, hp⟩ : ∃ p, p = wPl us k := ⟨_, rfl⟩
      rw [← hx] at hp1 hcase hbad hgood
      rw [← hp] at hp2 hbad
      have q1 : wr.cell? ⟨b, o + k * 2, none⟩ = some (.string x) := (hE.cell (p := ⟨b, o + k * 2, none⟩) hbs).trans hp1
      have q2 : wr.cell? ⟨b, o + k * 2 + 1, none⟩ = some (.int .i64 p) := (hE.cell (p := ⟨b, o + k * 2 + 1, none⟩) hbs).trans hp2
      obtain ⟨w2, hw2⟩ : ∃ w2, w2 = wr.alloc (.cells #[.string x, .int .i64 p] 44) := ⟨_, rfl⟩
      have hE2 : Ext w w2 := by rw [hw2]; exact hE.alloc hE.size _
      have hB2 : Blk w2 w.heap.size 31 #[.int .i64 0, .int .i64 0] := by rw [hw2]; exact hB.alloc _
      obtain ⟨gv, hgv⟩ : ∃ g, g = wr.heap.size := ⟨_, rfl⟩
      have hV2 : Blk w2 gv 44 #[.string x, .int .i64 p] := by rw [hw2, hgv]; exact Blk.new _ _ _
      have v0 := hV2.cell 0
      have v1 := hV2.cell 1
      simp only [List.getElem?_toArray, List.getElem?_cons_zero, List.getElem?_cons_succ] at v0 v1
      have HW2 := hide hw2
      have HGV := hide hgv
      have HE2 := hide hE2
      have HB2 := hide hB2
      have HV2 := hide hV2
      have HBAD := hide hbad
      have HGOOD := hide hgood
      have hf := HFnd.out w2 hE2 x
      clear hp1 hp2 hcell hE hB hx hp hbad hgood hw2 hgv hE2 hB2 hV2
      rcases hcase with ⟨e1, e2⟩ | ⟨q, hq, e1, e2⟩
      · rw [e2] at hf
        have HF := hide hf
        have HX := hide (firstOf_hit (n := m) hlt HA.out (HBAD.out e1))
        clear hf e1 e2 HGOOD HBAD
        go_wp2_with fail
        rw [← HW2.out, ← HGV.out]
        go_wp2_with fail
        refine HF.out.mono ?_
        rintro e w3 ⟨rfl, hE3⟩
        have HE3 := hide (HE2.out.trans' hE3)
        have hB3 := HB2.out.ext hE3
        have HB3 := hide hB3
        have hV3 := HV2.out.ext hE3
        have b0 := hB3.cell 0
        have b1 := hB3.cell 1
        have f0 := hB3.free 0
        have f1 := hB3.free 1
        have u1 := hV3.cell 1
        simp only [List.getElem?_toArray, List.getElem?_cons_zero, List.getElem?_cons_succ] at b0 b1 u1
        clear hB3 hV3 hE3 v0 v1
        go_wp2_with fail
        go_region
        go_wp2_with fail
        exact val_flt_ret (f := (17, p)) (g := w.heap.size) (v := .int .i64 0) ((HB3.out.set_ 0 _).set_ 1 _) rfl rfl rfl rfl ⟨by unfold ofI ofF; rw [← HM.out, HX.out], (ext_two HE3.out _ _).drew'⟩
      · rw [e2] at hf
        have hqn : q < ws.length := by rw [nms_length] at hq; exact hq
        have HF := hide hf
        obtain ⟨g1, g2⟩ := HGOOD.out q e1
        have HA2 := hide (below_step HA.out g1)
        have HT2 := hide (show LatM.jn ws.length (leqL ws os) t q = LatM.allJoin ws.length (leqL ws os) (ofIdx ws us (k + 1)) by rw [g2, LatM.allJoin, LatM.joinTo_append, HT.out]; rfl)
        have HJ := hide (fun (w1 : World) (hE : Ext w w1) => HJn.out w1 hE t q htn hqn)
        obtain ⟨u, hu⟩ : ∃ u, u = LatM.jn ws.length (leqL ws os) t q := ⟨_, rfl⟩
        rw [← hu] at HT2 HJ
        clear hf e1 e2 HGOOD HBAD g1 g2 hu hq HA HT
        go_wp2_with fail
        rw [← HW2.out, ← HGV.out]
        go_wp2_with fail
        refine HF.out.mono ?_
        rintro e w3 ⟨rfl, hE3⟩
        have HE3 := hide (HE2.out.trans' hE3)
        have HB3 := hide (HB2.out.ext hE3)
        clear hE3 v0 v1
        go_wp2_with fail
        refine (HJ.out _ HE3.out).mono ?_
        rintro e w' ⟨rfl, rfl⟩
        go_wp2_with fail
        go_roundw
        case rel => exact ⟨k + 1, u, by omega, by go_num, rfl, HE3.out, HB3.out, HA2, HT2⟩
        case measure => simp [intOf]; omega
    · obtain rfl : k = m := by omega
      have HX := hide (firstOf_miss.2 HA.out)
      have b0 := hB.cell 0
      have b1 := hB.cell 1
      have f0 := hB.free 0
      have f1 := hB.free 1
      simp only [List.getElem?_toArray, List.getElem?_cons_zero, List.getElem?_cons_succ] at b0 b1
      clear hB hE HA
      go_wp2_with fail
      exact val_flt_ret (f := (0, 0)) (g := w.heap.size) (v := .int .i64 t) ((HB.out.set_ 0 _).set_ 1 _) rfl rfl rfl rfl ⟨by unfold ofI ofF; rw [← HM.out, HX.out, HT.out], ext_two HE.out _ _⟩
theorem labOf_nil (A : Option Addr) (c m : Nat) (w : World) : Calls Tryz.prog 21 #[.pointer none, .slice A m c] w (fun e w' => e = .returned (.tuple #[.int .i64 0, fltV (1, 0)]) ∧ Ext w w') := by
  have hB : Blk (w.alloc (.cells #[.int .i64 0, .int .i64 0] 31)) w.heap.size 31 #[.int .i64 0, .int .i64 0] := Blk.new _ _ _
  have b0 := hB.cell 0
  have b1 := hB.cell 1
  have f0 := hB.free 0
  have f1 := hB.free 1
  simp only [List.getElem?_toArray, List.getElem?_cons_zero, List.getElem?_cons_succ] at b0 b1
  clear hB
  go_enter Tryz.func21, Tryz.ntmps21
  go_wp2_with fail
  exact val_flt_ret (f := (1, 0)) (g := w.heap.size) (v := .int .i64 0) (Blk.new _ _ _) rfl rfl rfl rfl ⟨rfl, (Ext.rfl' w).alloc (Nat.le_refl _) _⟩

theorem labSees_any (g : Nat) (ws : List Wd) (os : List (Wd × Wd)) (A : Option Addr) (c m : Nat) (us : List Wd) (ob : Int) (w : World) (h : LatAt w g ws os) (h32 : ws.length ≤ 32) (hlat : LatM.Lat ws.length (leqL ws os)) (hok : okPs ws.length (prs ws os) = true) (hu : WdsAt w w.heap.size A us) (hm : m = us.length) (hm' : m ≤ 9223372036854775807) :
    Calls Tryz.prog 23 #[.pointer (some ⟨g, 0, none⟩), .int .i64 ob, .slice A m c] w (fun e w' => e = .returned (.bool (((ofF ws us).1 == 0) && leqI ws os (ofI ws os us) ob)) ∧ Ext w w') := by
  have HO := hide (labOf_any g ws os A c m us w h h32 hlat hu hm hm')
  have HQ := hide (fun (w1 : World) (hE : Ext w w1) (x : Int) => latLeq_any g ws os w1 (h.ext hE) hok x ob)
  obtain ⟨v, hv⟩ : ∃ v, v = ofI ws os us := ⟨_, rfl⟩
  obtain ⟨f1, hf1⟩ : ∃ f, f = (ofF ws us).1 := ⟨_, rfl⟩
  obtain ⟨f2, hf2⟩ : ∃ f, f = (ofF ws us).2 := ⟨_, rfl⟩
  have e : fltV (ofF ws us) = .agg #[.int .i64 f1, .int .i64 f2] := by rw [hf1, hf2]; rfl
  rw [e, ← hv] at HO
  rw [← hv, ← hf1]
  clear hv hf1 hf2 e h h32 hlat hok hu hm hm'
  by_cases h0 : f1 = 0
  · subst h0
    go_enter Tryz.func23, Tryz.ntmps23
    go_wp2_with fail
    refine HO.out.mono ?_
    rintro e w1 ⟨rfl, hE1⟩
    have hE2 : Ext w (w1.alloc (.cells #[.int .i64 0, .int .i64 f2] 31)) := hE1.alloc hE1.size _
    have HQ1 := hide (HQ.out _ hE2 v)
    have HE2 := hide hE2
    clear hE1 hE2
    go_wp2_with fail
    refine HQ1.out.mono ?_
    rintro e w' ⟨rfl, rfl⟩
    go_wp2_with fail
    go_ret
    exact ⟨rfl, HE2.out⟩
  · have h1 : (f1 == 0) = false := by simpa using h0
    rw [h1]
    go_enter Tryz.func23, Tryz.ntmps23
    go_wp2_with fail
    refine HO.out.mono ?_
    rintro e w1 ⟨rfl, hE1⟩
    have HE2 := hide (hE1.alloc hE1.size (.cells #[.int .i64 f1, .int .i64 f2] 31))
    clear hE1
    go_wp2_with fail
    go_ret
    exact ⟨rfl, HE2.out⟩
theorem labSees_nil (A : Option Addr) (c m : Nat) (ob : Int) (w : World) : Calls Tryz.prog 23 #[.pointer none, .int .i64 ob, .slice A m c] w (fun e w' => e = .returned (.bool false) ∧ Ext w w') := by
  have HO := hide (labOf_nil A c m w)
  rw [show fltV (1, 0) = .agg #[.int .i64 1, .int .i64 0] from rfl] at HO
  go_enter Tryz.func23, Tryz.ntmps23
  go_wp2_with fail
  refine HO.out.mono ?_
  rintro e w1 ⟨rfl, hE1⟩
  have HE2 := hide (hE1.alloc hE1.size (.cells #[.int .i64 1, .int .i64 0] 31))
  clear hE1
  go_wp2_with fail
  go_ret
  exact ⟨rfl, HE2.out⟩
end Go.Proofs.YtpjlhpaenmfieaaGreat
/- labels: joined, Under, walked. -/
namespace Go.Proofs.YtpjlhpaenmfieaaGreat
open Go.RowKit

/-- Numbers in memory. -/
def intCells (l : List Int) : List Value := l.map fun i => Value.int .i64 i
theorem intCells_length (l : List Int) : (intCells l).length = l.length := by simp [intCells]
def IntAt (w : World) (B : Nat) (A : Option Addr) (l : List Int) : Prop := Reads w B 1 A l.length (intCells l)
theorem IntAt.cell {w : World} {B : Nat} {A : Option Addr} {l : List Int} (h : IntAt w B A l) (hn : 0 < l.length) :
    ∃ b o, A = some ⟨b, o, none⟩ ∧ b < B ∧ ∀ k (hk : k < l.length), w.cell? ⟨b, o + k, none⟩ = some (.int .i64 l[k]) := by
  obtain ⟨b, o, e, hb, hc⟩ := h.form hn (Nat.lt_succ_self 0)
  exact ⟨b, o, e, hb, fun k hk => hc _ _ (by simp [intCells, hk])⟩
theorem IntAt.ext {w w' : World} {A : Option Addr} {l : List Int} (h : IntAt w w.heap.size A l) (hE : Ext w w') : IntAt w' w'.heap.size A l :=
  (Reads.keep h fun _p hp => hE.cell hp).more hE.size
theorem NatAt.ints {w : World} {B : Nat} {A : Option Addr} {l : List Nat} (h : NatAt w B A l) : IntAt w B A (l.map fun (n : Nat) => (n : Int)) := by
  unfold IntAt
  rw [List.length_map, show intCells (l.map fun (n : Nat) => (n : Int)) = natCells l by simp [intCells, natCells]]
  exact h

/-- Those numbers that are levels. -/
def lvl (n : Nat) (x : List Int) : List Nat := x.filterMap fun i => if hasI n i then some i.toNat else none
theorem lvl_append (n : Nat) (x : List Int) (i : Int) : lvl n (x ++ [i]) = if hasI n i then lvl n x ++ [i.toNat] else lvl n x := by
  unfold lvl
  rw [List.filterMap_append]
  split <;> simp [*]
theorem lvl_lt {n : Nat} {x : List Int} : ∀ k ∈ lvl n x, k < n := by
  intro k hk
  unfold lvl at hk
  obtain ⟨i, _, h⟩ := List.mem_filterMap.1 hk
  rcases hasI_cases n i with ⟨j, rfl, hj⟩ | ho
  · rw [hasI_nat hj, if_pos rfl] at h
    cases h; simpa using hj
  · rw [hasI_out ho] at h; cases h
theorem lvl_nat {n : Nat} {l : List Nat} (h : ∀ k ∈ l, k < n) : lvl n (l.map fun (k : Nat) => (k : Int)) = l := by
  induction l with
  | nil => rfl
  | cons a l ih =>
    have := ih fun k hk => h k (by simp [hk])
    unfold lvl at this ⊢
    rw [List.map_cons, List.filterMap_cons, hasI_nat (h a (by simp)), if_pos rfl, this]
    simp
theorem name_some {ws : List Wd} {k : Nat} (h : nameBad ws k = none) : ((wNm ws k).toList == ([] : List UInt8)) = false := by
  unfold nameBad at h
  by_cases hr : rightB (wNm ws k) = false
  · rw [if_pos hr] at h; cases h
  · cases he : (wNm ws k).toList with
    | cons a l => rfl
    | nil =>
      exfalso
      refine hr ?_
      have h0 : (wNm ws k).size = 0 := by
        have : (wNm ws k).toList.length = 0 := by rw [he]; rfl
        rw [Lib.toList_data] at this
        rw [Array.length_toList] at this
        exact this
      unfold rightB
      exact decide_eq_false fun h => by have := h.1; omega

set_option maxRecDepth 100000 in
set_option maxHeartbeats 1000000 in
theorem labJoined_any (g : Nat) (ws : List Wd) (os : List (Wd × Wd)) (A : Option Addr) (c m : Nat) (x : List Int) (w : World) (h : LatAt w g ws os) (gd : GoodL ws os) (hx : IntAt w w.heap.size A x) (hm : m = x.length) (hm' : m ≤ 9223372036854775807) :
    Calls Tryz.prog 56 #[.pointer (some ⟨g, 0, none⟩), .slice A m c] w (fun e w' => e = .returned (.int .i64 (LatM.allJoin ws.length (leqL ws os) (lvl ws.length x) : Nat)) ∧ w = w') := by
  have h32 := gd.few
  have hlat := gd.lat
  have HM := hide hm
  have HXX := hide hx
  have HLAT := hide hlat
  have HNS := hide gd.named
  have HBot := hide (latBottom_any g ws os w h h32 hlat.turn)
  have HNm := hide (fun (i : Int) => latName_any g ws os w h i)
  have HJn := hide (fun (x y : Nat) (hx : x < ws.length) (hy : y < ws.length) => (by have := latJoin_any g ws os w h h32 x y; rw [joinI_nat hx hy, (LatM.jn_eq hlat hx hy).1] at this; exact this : Calls Tryz.prog 58 #[.pointer (some ⟨g, 0, none⟩), .int .i64 x, .int .i64 y] w (fun e w' => e = .returned (.int .i64 ((LatM.jn ws.length (leqL ws os) x y : Nat) : Int)) ∧ w = w')))
  have HT0 := hide (show LatM.topN ws.length (turnL (leqL ws os)) = LatM.allJoin ws.length (leqL ws os) (lvl ws.length (x.take 0)) from rfl)
  obtain ⟨bt, hbt⟩ : ∃ b, b = LatM.topN ws.length (turnL (leqL ws os)) := ⟨_, rfl⟩
  rw [← hbt] at HBot HT0
  clear hm hx hlat h h32 hbt gd
  go_enter Tryz.func56, Tryz.ntmps56
  go_wp2_with fail
  refine HBot.out.mono ?_
  rintro e w' ⟨rfl, rfl⟩
  clear HBot
  go_wp2_with fail
  go_loopw [12, 5] (fun i o wr => ∃ k t : Nat, k ≤ m ∧ i = .int .i64 k ∧ o = .int .i64 t ∧ w = wr ∧ Hid (t = LatM.allJoin ws.length (leqL ws os) (lvl ws.length (x.take k)))) (fun i _ _ => m - (intOf i).toNat)
  case atStart => exact ⟨0, bt, Nat.zero_le _, rfl, rfl, rfl, HT0.out⟩
  case round =>
    obtain ⟨k, t, hk, rfl, rfl, rfl, HT⟩ := hrel
    by_cases hlt : k < m
    · have hkl : k < x.length := by rw [← HM.out]; exact hlt
      obtain ⟨b, o, rfl, hbs, hcell⟩ := HXX.out.cell (by omega)
      have q1 := hcell k hkl
      have htn : t < ws.length := by rw [HT.out]; exact LatM.allJoin_lt HLAT.out lvl_lt
      have hst : lvl ws.length (x.take (k + 1)) = if hasI ws.length x[k] then lvl ws.length (x.take k) ++ [x[k].toNat] else lvl ws.length (x.take k) := by
        rw [List.take_succ_eq_append_getElem hkl, lvl_append]
      obtain ⟨i, hi⟩ : ∃ i, i = x[k] := ⟨_, rfl⟩
      rw [← hi] at q1 hst
      have hn := HNm.out i
      rcases hasI_cases ws.length i with ⟨q, rfl, hq⟩ | ho
      · rw [hasI_nat hq, if_pos rfl, Int.toNat_natCast] at hst
        have e0 : nmI ws (q : Int) = wNm ws q := by unfold nmI; rw [hasI_nat hq, if_pos rfl, Int.toNat_natCast]
        rw [e0] at hn
        have hne := name_some (HNS.out q hq)
        obtain ⟨nm, hnm⟩ : ∃ nm, nm = wNm ws q := ⟨_, rfl⟩
        rw [← hnm] at hn hne
        have HN := hide hn
        have HJ := hide (HJn.out t q htn hq)
        have HT2 := hide (show LatM.jn ws.length (leqL ws os) t q = LatM.allJoin ws.length (leqL ws os) (lvl ws.length (x.take (k + 1))) by rw [hst, LatM.allJoin, LatM.joinTo_append, HT.out]; rfl)
        obtain ⟨u, hu⟩ : ∃ u, u = LatM.jn ws.length (leqL ws os) t q := ⟨_, rfl⟩
        rw [← hu] at HT2 HJ
        clear hn hst hu hcell hi hnm e0 HT
        go_wp2_with fail
        refine HN.out.mono ?_
        rintro e w' ⟨rfl, rfl⟩
        go_wp2_with fail
        refine HJ.out.mono ?_
        rintro e w' ⟨rfl, rfl⟩
        go_wp2_with fail
        go_roundw
        case rel => exact ⟨k + 1, u, by omega, by go_num, rfl, by trivial, HT2⟩
        case measure => simp [intOf]; omega
      · rw [hasI_out ho, if_neg (by decide)] at hst
        have e0 : nmI ws i = ⟨#[]⟩ := by unfold nmI; rw [hasI_out ho]; rfl
        rw [e0] at hn
        have HN := hide hn
        have HT2 := hide (show t = LatM.allJoin ws.length (leqL ws os) (lvl ws.length (x.take (k + 1))) by rw [hst]; exact HT.out)
        clear hn hst hcell hi e0 HT ho
        go_wp2_with fail
        refine HN.out.mono ?_
        rintro e w' ⟨rfl, rfl⟩
        go_wp2_with fail
        go_roundw
        case rel => exact ⟨k + 1, t, by omega, by go_num, rfl, by trivial, HT2⟩
        case measure => simp [intOf]; omega
    · obtain rfl : k = m := by omega
      go_wp2_with fail
      go_ret
      exact ⟨ret_int (by rw [HT.out, List.take_of_length_le (by rw [← HM.out]; exact Nat.le_refl _)]), rfl⟩
set_option maxRecDepth 100000 in
theorem labJoined_nil (A : Option Addr) (c m : Nat) (x : List Int) (w : World) (hx : IntAt w w.heap.size A x) (hm : m = x.length) (hm' : m ≤ 9223372036854775807) :
    Calls Tryz.prog 56 #[.pointer none, .slice A m c] w (fun e w' => e = .returned (.int .i64 (-1)) ∧ w = w') := by
  have HM := hide hm
  have HXX := hide hx
  clear hm hx
  go_enter Tryz.func56, Tryz.ntmps56
  go_wp2_with fail
  refine (latBottom_nil w).mono ?_
  rintro e w' ⟨rfl, rfl⟩
  go_wp2_with fail
  go_loopw [12, 5] (fun i o wr => ∃ k : Nat, k ≤ m ∧ i = .int .i64 k ∧ o = .int .i64 (-1) ∧ w = wr) (fun i _ _ => m - (intOf i).toNat)
  case atStart => exact ⟨0, Nat.zero_le _, rfl, rfl, rfl⟩
  case round =>
    obtain ⟨k, hk, rfl, rfl, rfl⟩ := hrel
    by_cases hlt : k < m
    · have hkl : k < x.length := by rw [← HM.out]; exact hlt
      obtain ⟨b, o, rfl, hbs, hcell⟩ := HXX.out.cell (by omega)
      have q1 := hcell k hkl
      obtain ⟨i, hi⟩ : ∃ i, i = x[k] := ⟨_, rfl⟩
      rw [← hi] at q1
      clear hcell hi
      go_wp2_with fail
      refine (latName_nil w i).mono ?_
      rintro e w' ⟨rfl, rfl⟩
      go_wp2_with fail
      go_roundw
      case rel => exact ⟨k + 1, by omega, by go_num, rfl, by trivial⟩
      case measure => simp [intOf]; omega
    · obtain rfl : k = m := by omega
      go_wp2_with fail
      go_ret
      exact ⟨rfl, rfl⟩

theorem labUnder_any (g : Nat) (ws : List Wd) (os : List (Wd × Wd)) (A : Option Addr) (c m : Nat) (x : List Int) (A2 : Option Addr) (c2 m2 : Nat) (y : List Int) (w : World) (h : LatAt w g ws os) (gd : GoodL ws os) (hx : IntAt w w.heap.size A x) (hm : m = x.length) (hm' : m ≤ 9223372036854775807) (hy : IntAt w w.heap.size A2 y) (hm2 : m2 = y.length) (hm2' : m2 ≤ 9223372036854775807) :
    Calls Tryz.prog 20 #[.pointer (some ⟨g, 0, none⟩), .slice A m c, .slice A2 m2 c2] w (fun e w' => e = .returned (.bool (leqL ws os (LatM.allJoin ws.length (leqL ws os) (lvl ws.length x)) (LatM.allJoin ws.length (leqL ws os) (lvl ws.length y)))) ∧ w = w') := by
  have HA := hide (labJoined_any g ws os A c m x w h gd hx hm hm')
  have HB := hide (labJoined_any g ws os A2 c2 m2 y w h gd hy hm2 hm2')
  have la := LatM.allJoin_lt gd.lat (lvl_lt (n := ws.length) (x := x))
  have lb := LatM.allJoin_lt gd.lat (lvl_lt (n := ws.length) (x := y))
  have hq := latLeq_any g ws os w h (prs_ok gd.found) (LatM.allJoin ws.length (leqL ws os) (lvl ws.length x) : Nat) (LatM.allJoin ws.length (leqL ws os) (lvl ws.length y) : Nat)
  unfold leqI at hq
  rw [hasI_nat la, hasI_nat lb, Int.toNat_natCast, Int.toNat_natCast, Bool.true_and, Bool.true_and] at hq
  have HQ := hide hq
  obtain ⟨a, ha⟩ : ∃ a, a = LatM.allJoin ws.length (leqL ws os) (lvl ws.length x) := ⟨_, rfl⟩
  obtain ⟨b, hb⟩ : ∃ a, a = LatM.allJoin ws.length (leqL ws os) (lvl ws.length y) := ⟨_, rfl⟩
  rw [← ha] at HA HQ ⊢
  rw [← hb] at HB HQ ⊢
  clear ha hb la lb hq h gd hx hm hm' hy hm2 hm2'
  go_enter Tryz.func20, Tryz.ntmps20
  go_wp2_with fail
  refine HA.out.mono ?_
  rintro e w' ⟨rfl, rfl⟩
  go_wp2_with fail
  refine HB.out.mono ?_
  rintro e w' ⟨rfl, rfl⟩
  go_wp2_with fail
  refine HQ.out.mono ?_
  rintro e w' ⟨rfl, rfl⟩
  go_wp2_with fail
  go_ret
  exact ⟨rfl, rfl⟩
theorem labUnder_nil (A : Option Addr) (c m : Nat) (x : List Int) (A2 : Option Addr) (c2 m2 : Nat) (y : List Int) (w : World) (hx : IntAt w w.heap.size A x) (hm : m = x.length) (hm' : m ≤ 9223372036854775807) (hy : IntAt w w.heap.size A2 y) (hm2 : m2 = y.length) (hm2' : m2 ≤ 9223372036854775807) :
    Calls Tryz.prog 20 #[.pointer none, .slice A m c, .slice A2 m2 c2] w (fun e w' => e = .returned (.bool false) ∧ w = w') := by
  have HA := hide (labJoined_nil A c m x w hx hm hm')
  have HB := hide (labJoined_nil A2 c2 m2 y w hy hm2 hm2')
  clear hx hm hm' hy hm2 hm2'
  go_enter Tryz.func20, Tryz.ntmps20
  go_wp2_with fail
  refine HA.out.mono ?_
  rintro e w' ⟨rfl, rfl⟩
  go_wp2_with fail
  refine HB.out.mono ?_
  rintro e w' ⟨rfl, rfl⟩
  go_wp2_with fail
  refine (latLeq_nil w _ _).mono ?_
  rintro e w' ⟨rfl, rfl⟩
  go_wp2_with fail
  go_ret
  exact ⟨rfl, rfl⟩
end Go.Proofs.YtpjlhpaenmfieaaGreat
/- labels: Highest, walked. -/
namespace Go.Proofs.YtpjlhpaenmfieaaGreat
open Go.RowKit

/-- The first place of a number that is meant. -/
def idxL (p : Int → Bool) (x : List Int) : Int := match x.findIdx? p with | some i => (i : Int) | none => -1
theorem idxL_hit {p : Int → Bool} {x : List Int} {k : Nat} (hk : k < x.length) (h0 : ∀ j (hj : j < x.length), j < k → p x[j] = false) (h : p x[k] = true) : idxL p x = k := by
  unfold idxL
  have : x.findIdx? p = some k := by
    rw [List.findIdx?_eq_some_iff_getElem]
    exact ⟨hk, h, fun j hj => by rw [h0 j (by omega) hj]; decide⟩
  rw [this]
theorem idxL_miss {p : Int → Bool} {x : List Int} (h0 : ∀ j (hj : j < x.length), p x[j] = false) : idxL p x = -1 := by
  unfold idxL
  have : x.findIdx? p = none := by
    rw [List.findIdx?_eq_none_iff]
    intro a ha
    obtain ⟨i, hi, rfl⟩ := List.getElem_of_mem ha
    exact h0 i hi
  rw [this]
theorem idxL_any (p : Int → Bool) (x : List Int) : decide (0 ≤ idxL p x) = x.any p := by
  unfold idxL
  cases h : x.findIdx? p with
  | none =>
    rw [List.findIdx?_eq_none_iff] at h
    have : x.any p = false := by rw [List.any_eq_false]; intro a ha; simp [h a ha]
    rw [this]; rfl
  | some i =>
    rw [List.findIdx?_eq_some_iff_getElem] at h
    obtain ⟨hi, hp, _⟩ := h
    have : x.any p = true := by rw [List.any_eq_true]; exact ⟨x[i], List.getElem_mem hi, hp⟩
    rw [this]; simp

set_option maxRecDepth 100000 in
set_option maxHeartbeats 1000000 in
theorem index_any (A : Option Addr) (c m : Nat) (x : List Int) (v : Int) (w : World) (hx : IntAt w w.heap.size A x) (hm : m = x.length) (hm' : m ≤ 9223372036854775807) :
    Calls Tryz.prog 89 #[.slice A m c, .int .i64 v] w (fun e w' => e = .returned (.int .i64 (idxL (fun i => v == i) x)) ∧ w = w') := by
  have HM := hide hm
  have HXX := hide hx
  clear hm hx
  go_enter Tryz.func89, Tryz.ntmps89
  go_wp2_with fail
  go_loopw [8] (fun i wr => ∃ k : Nat, k ≤ m ∧ i = .int .i64 k ∧ w = wr ∧ Hid (∀ j (hj : j < x.length), j < k → (v == x[j]) = false)) (fun i _ => m - (intOf i).toNat)
  case atStart => exact ⟨0, Nat.zero_le _, rfl, rfl, fun j _ hj => absurd hj (by omega)⟩
  case round =>
    obtain ⟨k, hk, rfl, rfl, HA⟩ := hrel
    by_cases hlt : k < m
    · have hkl : k < x.length := by rw [← HM.out]; exact hlt
      obtain ⟨b, o, rfl, hbs, hcell⟩ := HXX.out.cell (by omega)
      have q1 := hcell k hkl
      obtain ⟨i, hi⟩ : ∃ i, i = x[k] := ⟨_, rfl⟩
      rw [← hi] at q1
      have HI := hide hi
      clear hcell hi
      cases he : (v == i) with
      | true =>
        have HX := hide (idxL_hit (p := fun i => v == i) hkl HA.out (by rw [← HI.out]; exact he))
        go_wp2_with fail
        go_ret
        exact ⟨ret_int HX.out.symm, rfl⟩
      | false =>
        have HA2 := hide (show ∀ j (hj : j < x.length), j < k + 1 → (v == x[j]) = false from fun j hj hjk => by
          by_cases e : j = k
          · subst e; rw [← HI.out]; exact he
          · exact HA.out j hj (by omega))
        clear HA HI
        go_wp2_with fail
        go_roundw
        case rel => exact ⟨k + 1, by omega, by go_num, by trivial, HA2⟩
        case measure => simp [intOf]; omega
    · obtain rfl : k = m := by omega
      have HX := hide (idxL_miss (p := fun i => v == i) fun j hj => HA.out j hj (by rw [HM.out]; exact hj))
      go_wp2_with fail
      go_ret
      exact ⟨ret_int HX.out.symm, rfl⟩
theorem contains_any (A : Option Addr) (c m : Nat) (x : List Int) (v : Int) (w : World) (hx : IntAt w w.heap.size A x) (hm : m = x.length) (hm' : m ≤ 9223372036854775807) :
    Calls Tryz.prog 53 #[.slice A m c, .int .i64 v] w (fun e w' => e = .returned (.bool (x.any fun i => v == i)) ∧ w = w') := by
  have HI := hide (index_any A c m x v w hx hm hm')
  rw [← idxL_any]
  obtain ⟨r, hr⟩ : ∃ r, r = idxL (fun i => v == i) x := ⟨_, rfl⟩
  rw [← hr] at HI ⊢
  clear hr hx hm hm'
  go_enter Tryz.func53, Tryz.ntmps53
  go_wp2_with fail
  refine HI.out.mono ?_
  rintro e w' ⟨rfl, rfl⟩
  go_wp2_with fail
  go_ret
  exact ⟨rfl, rfl⟩

set_option maxRecDepth 100000 in
set_option maxHeartbeats 1000000 in
theorem indexIn_any (A : Option Addr) (c m : Nat) (x : List Int) (p1 p2 : Value) (p : Int → Bool) (w : World) (hx : IntAt w w.heap.size A x) (hm : m = x.length) (hm' : m ≤ 9223372036854775807)
    (hp : ∀ i : Int, Calls Tryz.prog 50 #[.int .i64 i, p1, p2] w (fun e w' => e = .returned (.bool (p i)) ∧ w = w')) :
    Calls Tryz.prog 87 #[.slice A m c, .func (.func 50) #[] #[p1, p2]] w (fun e w' => e = .returned (.int .i64 (idxL p x)) ∧ w = w') := by
  have HM := hide hm
  have HXX := hide hx
  have HP := hide hp
  clear hm hx hp
  go_enter Tryz.func87, Tryz.ntmps87
  go_wp2_with fail
  go_loopw [8] (fun i wr => ∃ k : Nat, k ≤ m ∧ i = .int .i64 k ∧ w = wr ∧ Hid (∀ j (hj : j < x.length), j < k → p x[j] = false)) (fun i _ => m - (intOf i).toNat)
  case atStart => exact ⟨0, Nat.zero_le _, rfl, rfl, fun j _ hj => absurd hj (by omega)⟩
  case round =>
    obtain ⟨k, hk, rfl, rfl, HA⟩ := hrel
    by_cases hlt : k < m
    · have hkl : k < x.length := by rw [← HM.out]; exact hlt
      obtain ⟨b, o, rfl, hbs, hcell⟩ := HXX.out.cell (by omega)
      have q1 := hcell k hkl
      obtain ⟨i, hi⟩ : ∃ i, i = x[k] := ⟨_, rfl⟩
      rw [← hi] at q1
      have HI := hide hi
      have hpi := HP.out i
      obtain ⟨r, hr⟩ : ∃ r, r = p i := ⟨_, rfl⟩
      rw [← hr] at hpi
      have HPI := hide hpi
      have HR := hide hr
      clear hcell hi hpi hr
      cases r with
      | true =>
        have HX := hide (idxL_hit (p := p) hkl HA.out (by rw [← HI.out]; exact HR.out.symm))
        go_wp2_with fail
        refine HPI.out.mono ?_
        rintro e w' ⟨rfl, rfl⟩
        go_wp2_with fail
        go_ret
        exact ⟨ret_int HX.out.symm, rfl⟩
      | false =>
        have HA2 := hide (show ∀ j (hj : j < x.length), j < k + 1 → p x[j] = false from fun j hj hjk => by
          by_cases e : j = k
          · subst e; rw [← HI.out]; exact HR.out.symm
          · exact HA.out j hj (by omega))
        clear HA HI
        go_wp2_with fail
        refine HPI.out.mono ?_
        rintro e w' ⟨rfl, rfl⟩
        go_wp2_with fail
        go_roundw
        case rel => exact ⟨k + 1, by omega, by go_num, by trivial, HA2⟩
        case measure => simp [intOf]; omega
    · obtain rfl : k = m := by omega
      have HX := hide (idxL_miss (p := p) fun j hj => HA.out j hj (by rw [HM.out]; exact hj))
      go_wp2_with fail
      go_ret
      exact ⟨ret_int HX.out.symm, rfl⟩
theorem containsIn_any (A : Option Addr) (c m : Nat) (x : List Int) (p1 p2 : Value) (p : Int → Bool) (w : World) (hx : IntAt w w.heap.size A x) (hm : m = x.length) (hm' : m ≤ 9223372036854775807)
    (hp : ∀ i : Int, Calls Tryz.prog 50 #[.int .i64 i, p1, p2] w (fun e w' => e = .returned (.bool (p i)) ∧ w = w')) :
    Calls Tryz.prog 49 #[.slice A m c, .func (.func 50) #[] #[p1, p2]] w (fun e w' => e = .returned (.bool (x.any p)) ∧ w = w') := by
  have HI := hide (indexIn_any A c m x p1 p2 p w hx hm hm' hp)
  rw [← idxL_any]
  obtain ⟨r, hr⟩ : ∃ r, r = idxL p x := ⟨_, rfl⟩
  rw [← hr] at HI ⊢
  clear hr hx hm hm' hp
  go_enter Tryz.func49, Tryz.ntmps49
  go_wp2_with fail
  refine HI.out.mono ?_
  rintro e w' ⟨rfl, rfl⟩
  go_wp2_with fail
  go_ret
  exact ⟨rfl, rfl⟩

/-- Is a number another one, and is the level at most it? -/
def higher (ws : List Wd) (os : List (Wd × Wd)) (i k : Int) : Bool := (k != i) && leqI ws os i k
theorem inner_any (g Bi Bl : Nat) (ws : List Wd) (os : List (Wd × Wd)) (i k : Int) (w : World) (h : LatAt w g ws os) (hok : okPs ws.length (prs ws os) = true) (hi : w.cell? ⟨Bi, 0, none⟩ = some (.int .i64 i)) (hl : w.cell? ⟨Bl, 0, none⟩ = some (.pointer (some ⟨g, 0, none⟩))) :
    Calls Tryz.prog 50 #[.int .i64 k, .pointer (some ⟨Bi, 0, none⟩), .pointer (some ⟨Bl, 0, none⟩)] w (fun e w' => e = .returned (.bool (higher ws os i k)) ∧ w = w') := by
  have HQ := hide (latLeq_any g ws os w h hok i k)
  obtain ⟨r, hr⟩ : ∃ r, r = leqI ws os i k := ⟨_, rfl⟩
  rw [← hr] at HQ
  have hh : higher ws os i k = ((k != i) && r) := by rw [hr]; rfl
  rw [hh]
  clear hh hr h hok
  cases he : (k != i) with
  | false =>
    go_enter Tryz.func50, Tryz.ntmps50
    go_wp2_with fail
    go_ret
    exact ⟨rfl, rfl⟩
  | true =>
    go_enter Tryz.func50, Tryz.ntmps50
    go_wp2_with fail
    refine HQ.out.mono ?_
    rintro e w' ⟨rfl, rfl⟩
    go_wp2_with fail
    go_ret
    exact ⟨rfl, rfl⟩
theorem above_any (g Bx Bl : Nat) (A : Option Addr) (c m : Nat) (x : List Int) (ws : List Wd) (os : List (Wd × Wd)) (i : Int) (w : World) (h : LatAt w g ws os) (hok : okPs ws.length (prs ws os) = true) (hx : IntAt w w.heap.size A x) (hm : m = x.length) (hm' : m ≤ 9223372036854775807)
    (hb : w.cell? ⟨Bx, 0, none⟩ = some (.slice A m c)) (hlb : Bl < w.heap.size) (hbb : Bx < w.heap.size) (hl : w.cell? ⟨Bl, 0, none⟩ = some (.pointer (some ⟨g, 0, none⟩))) :
    Calls Tryz.prog 48 #[.int .i64 i, .pointer (some ⟨Bx, 0, none⟩), .pointer (some ⟨Bl, 0, none⟩)] w (fun e w' => e = .returned (.bool (x.any (higher ws os i))) ∧ Ext w w') := by
  obtain ⟨w1, hw1⟩ : ∃ w1, w1 = w.alloc (.cells #[.int .i64 i] 3) := ⟨_, rfl⟩
  have hE : Ext w w1 := by rw [hw1]; exact (Ext.rfl' w).alloc (Nat.le_refl _) _
  obtain ⟨gi, hgi⟩ : ∃ g, g = w.heap.size := ⟨_, rfl⟩
  have hI : Blk w1 gi 3 #[.int .i64 i] := by rw [hw1, hgi]; exact Blk.new _ _ _
  have c0 := hI.cell 0
  simp only [List.getElem?_toArray, List.getElem?_cons_zero] at c0
  have l1 := (hE.cell (p := ⟨Bl, 0, none⟩) hlb).trans hl
  have b1 := (hE.cell (p := ⟨Bx, 0, none⟩) hbb).trans hb
  have HC := hide (containsIn_any A c m x (.pointer (some ⟨gi, 0, none⟩)) (.pointer (some ⟨Bl, 0, none⟩)) (higher ws os i) w1 (hx.ext hE) hm hm' (fun k => inner_any g gi Bl ws os i k w1 (h.ext hE) hok c0 l1))
  have HE := hide hE
  have HW1 := hide hw1
  have HGI := hide hgi
  obtain ⟨r, hr⟩ : ∃ r, r = x.any (higher ws os i) := ⟨_, rfl⟩
  rw [← hr] at HC ⊢
  clear hr h hok hx hm hb hl hlb hbb hI c0 l1 hw1 hgi hE
  go_enter Tryz.func48, Tryz.ntmps48
  go_upto_region 1 with fail
  rw [← HW1.out, ← HGI.out]
  go_wp2_with fail
  refine HC.out.mono ?_
  rintro e w' ⟨rfl, rfl⟩
  go_wp2_with fail
  go_ret
  exact ⟨rfl, HE.out⟩
theorem any_contains {n : Nat} {x : List Int} {k : Nat} (hk : k < n) : (x.any fun i => (k : Int) == i) = (lvl n x).contains k := by
  rw [Bool.eq_iff_iff]
  unfold lvl
  simp only [List.any_eq_true, List.contains_iff_mem, List.mem_filterMap, beq_iff_eq]
  constructor
  · rintro ⟨i, hi, rfl⟩
    exact ⟨_, hi, by rw [hasI_nat hk, if_pos rfl]; simp⟩
  · rintro ⟨i, hi, h⟩
    refine ⟨i, hi, ?_⟩
    rcases hasI_cases n i with ⟨j, rfl, hj⟩ | ho
    · rw [hasI_nat hj, if_pos rfl] at h
      cases h; simp
    · rw [hasI_out ho] at h; cases h
theorem any_above {ws : List Wd} {os : List (Wd × Wd)} {x : List Int} {k : Nat} (hk : k < ws.length) : x.any (higher ws os k) = LatM.above (leqL ws os) (lvl ws.length x) k := by
  rw [Bool.eq_iff_iff, LatM.above_iff]
  unfold lvl
  simp only [List.any_eq_true, List.mem_filterMap]
  constructor
  · rintro ⟨i, hi, h⟩
    unfold higher leqI at h
    rcases hasI_cases ws.length i with ⟨j, rfl, hj⟩ | ho
    · rw [hasI_nat hj, hasI_nat hk, Int.toNat_natCast, Int.toNat_natCast] at h
      simp at h
      exact ⟨j, ⟨_, hi, by rw [hasI_nat hj, if_pos rfl]; simp⟩, fun e => h.1 (by rw [e]), h.2⟩
    · rw [hasI_out ho] at h; simp at h
  · rintro ⟨j, ⟨i, hi, h⟩, hne, hl⟩
    rcases hasI_cases ws.length i with ⟨q, rfl, hq⟩ | ho
    · rw [hasI_nat hq, if_pos rfl] at h
      simp at h
      subst h
      refine ⟨_, hi, ?_⟩
      unfold higher leqI
      rw [hasI_nat hq, hasI_nat hk, Int.toNat_natCast, Int.toNat_natCast, hl]
      simp; omega
    · rw [hasI_out ho] at h; cases h

/-- Numbers in a row of the call's own. -/
def OwnPost (l : List Nat) (w : World) (e : Ending) (w' : World) : Prop := ∃ A c, e = .returned (.slice A l.length c) ∧ w'.ownsRow w.heap.size 3 1 (.slice A l.length c) l.length (natCells l) ∧ Ext w w'
theorem OwnPost.sees {l : List Nat} {w w' : World} {e : Ending} (h : OwnPost l w e w') : SeesPost l w e w' := by
  obtain ⟨A, c, he, hO, hE⟩ := h
  exact ⟨A, c, he, Reads.of_own hO, hE⟩
set_option maxRecDepth 100000 in
set_option maxHeartbeats 2000000 in
theorem labHighO_any (g : Nat) (ws : List Wd) (os : List (Wd × Wd)) (A : Option Addr) (c m : Nat) (x : List Int) (w : World) (h : LatAt w g ws os) (gd : GoodL ws os) (hx : IntAt w w.heap.size A x) (hm : m = x.length) (hm' : m ≤ 9223372036854775807) :
    Calls Tryz.prog 18 #[.pointer (some ⟨g, 0, none⟩), .slice A m c] w (OwnPost (LatM.highTo (leqL ws os) (lvl ws.length x) ws.length) w) := by
  have h32 := gd.few
  have hok := prs_ok gd.found
  obtain ⟨w1, hw1⟩ : ∃ w1, w1 = (w.alloc (.cells #[.pointer (some ⟨g, 0, none⟩)] 28)).alloc (.cells #[.slice A m c] 34) := ⟨_, rfl⟩
  have hE1 : Ext w w1 := by rw [hw1]; exact ((Ext.rfl' w).alloc (Nat.le_refl _) _).alloc (by simp) _
  obtain ⟨Bl, hBl⟩ : ∃ g, g = w.heap.size := ⟨_, rfl⟩
  obtain ⟨Bx, hBx⟩ : ∃ g, g = w.heap.size + 1 := ⟨_, rfl⟩
  have hL1 : Blk w1 Bl 28 #[.pointer (some ⟨g, 0, none⟩)] := by rw [hw1, hBl]; exact (Blk.new _ _ _).alloc _
  have hX1 : Blk w1 Bx 34 #[.slice A m c] := by
    have := Blk.new (w.alloc (.cells #[.pointer (some ⟨g, 0, none⟩)] 28)) 34 #[.slice A m c]
    rw [World.size_alloc] at this
    rw [hw1, hBx]; exact this
  have HLN := hide (latLen_any g ws os w1 (h.ext hE1))
  have HCT := hide (fun (w2 : World) (hE : Ext w1 w2) (v : Int) => contains_any A c m x v w2 (hx.ext (hE1.trans' hE)) hm hm')
  have HAB := hide (fun (w2 : World) (hE : Ext w1 w2) (i : Int) => above_any g Bx Bl A c m x ws os i w2 (h.ext (hE1.trans' hE)) hok (hx.ext (hE1.trans' hE)) hm hm' ((hX1.ext hE).cell 0) (hL1.ext hE).lt (hX1.ext hE).lt ((hL1.ext hE).cell 0))
  have HAC := hide (fun (k : Nat) (hk : k < ws.length) => any_contains (x := x) hk)
  have HAA := hide (fun (k : Nat) (hk : k < ws.length) => any_above (os := os) (x := x) hk)
  obtain ⟨L, hL⟩ : ∃ L, L = leqL ws os := ⟨_, rfl⟩
  obtain ⟨Y, hY⟩ : ∃ Y, Y = lvl ws.length x := ⟨_, rfl⟩
  rw [← hY] at HAC HAA
  rw [← hL] at HAA
  rw [← hL, ← hY]
  obtain ⟨n, hn⟩ : ∃ n, n = ws.length := ⟨_, rfl⟩
  rw [← hn] at HLN h32 HAC HAA ⊢
  have HL1 := hide hL1
  have HX1 := hide hX1
  have HE1 := hide hE1
  have HW1 := hide hw1
  have HBL := hide hBl
  have HBX := hide hBx
  clear h gd hx hm hok hn hL hY hL1 hX1 hE1 hw1 hBl hBx
  go_enter Tryz.func18, Tryz.ntmps18
  have l0 := HL1.out.cell 0
  have x0 := HX1.out.cell 0
  simp only [List.getElem?_toArray, List.getElem?_cons_zero] at l0 x0
  go_upto_region 1 with fail
  rw [← HW1.out, ← HBX.out, ← HBL.out]
  go_wp2_with fail
  refine HLN.out.mono ?_
  rintro e w' ⟨rfl, rfl⟩
  clear l0 x0
  go_wp2_with fail
  go_loopw [11, 5] (fun i o wr => ∃ (k q : Nat) (Ao : Option Addr) (co : Nat), k ≤ n ∧ i = .int .i64 (k : Int) ∧ o = .slice Ao q co ∧ q ≤ k ∧ wr.ownsRow w1.heap.size 3 1 (.slice Ao q co) q (natCells (LatM.highTo L Y k)) ∧ Ext w1 wr ∧ Hid (q = (LatM.highTo L Y k).length)) (fun i _ _ => n - (intOf i).toNat)
  case atStart => exact ⟨0, 0, none, 0, Nat.zero_le _, rfl, rfl, Nat.le_refl _, World.ownsRow_nil _ _ _ _, Ext.rfl' w1, rfl⟩
  case round =>
    obtain ⟨k, q, Ao, co, hk, rfl, rfl, hqk, hO, hE, HQ⟩ := hrel
    have HO := hide hO
    have HE := hide hE
    by_cases hlt : k < n
    · have x1 := (HX1.out.ext hE).cell 0
      simp only [List.getElem?_toArray, List.getElem?_cons_zero] at x1
      have hct := HCT.out wr hE k
      have hab := HAB.out wr hE k
      rw [HAC.out k hlt] at hct
      rw [HAA.out k hlt] at hab
      obtain ⟨r1, hr1⟩ : ∃ r, r = Y.contains k := ⟨_, rfl⟩
      obtain ⟨r2, hr2⟩ : ∃ r, r = LatM.above L Y k := ⟨_, rfl⟩
      rw [← hr1] at hct
      rw [← hr2] at hab
      have HC := hide hct
      have HB := hide hab
      have HR1 := hide hr1
      have HR2 := hide hr2
      have hsz := hE.size
      clear hO hE hct hab hr1 hr2
      cases r1 with
      | false =>
        have hs := LatM.highTo_no (M := L) (.inl HR1.out.symm)
        have HO2 := HO.out
        rw [← hs] at HO2 HQ
        have HO3 := hide HO2
        clear hs HO2
        go_wp2_with fail
        refine HC.out.mono ?_
        rintro e w' ⟨rfl, rfl⟩
        go_wp2_with fail
        go_roundw
        case rel => exact ⟨k + 1, q, Ao, co, by omega, by go_num, rfl, by omega, HO3.out, HE.out, HQ⟩
        case measure => simp [intOf]; omega
      | true =>
        cases r2 with
        | true =>
          have hs := LatM.highTo_no (M := L) (l := Y) (k := k) (.inr HR2.out.symm)
          have HO2 := HO.out
          rw [← hs] at HO2 HQ
          have HO3 := hide HO2
          clear hs HO2
          go_wp2_with fail
          refine HC.out.mono ?_
          rintro e w' ⟨rfl, rfl⟩
          go_wp2_with fail
          refine HB.out.mono ?_
          rintro e w2 ⟨rfl, hE2⟩
          have HE2 := hide (HE.out.trans' hE2)
          have HO4 := hide (own_ext HO3.out hE2)
          clear hE2
          go_wp2_with fail
          go_roundw
          case rel => exact ⟨k + 1, q, Ao, co, by omega, by go_num, rfl, by omega, HO4.out, HE2.out, HQ⟩
          case measure => simp [intOf]; omega
        | false =>
          have HS := hide (LatM.highTo_yes (M := L) HR1.out.symm HR2.out.symm)
          go_wp2_with fail
          refine HC.out.mono ?_
          rintro e w' ⟨rfl, rfl⟩
          go_wp2_with fail
          refine HB.out.mono ?_
          rintro e w2 ⟨rfl, hE2⟩
          have HE2 := hide (HE.out.trans' hE2)
          have HO2 := hide (own_ext HO.out hE2)
          have hsz := HE2.out.size
          clear hE2 x1
          go_wp2_with (at_builtin; refine wpList_append_Nat _ rfl _ _ rfl w1.heap.size _ q (LatM.highTo L Y k) rfl w2.heap.size k _ rfl (HO2.out.alloc _) (reads_new _ _ _) (by omega) (by simp; omega) ?_)
          intro A3 c3 w3 hown3 hgrow3 _
          have HE3 := hide (grown_ext' (w := w1) (wr := w2) (base := w1.heap.size) HE2.out ((Ext.rfl' w2).alloc (Nat.le_refl _) _) hgrow3 HO2.out (Nat.le_refl _))
          rw [← HS.out] at hown3
          have HO3 := hide hown3
          clear hown3 hgrow3
          go_wp2_with fail
          go_roundw
          case rel => exact ⟨k + 1, q + 1, A3, c3, by omega, by go_num, rfl, by omega, HO3.out, HE3.out, by rw [HS.out, List.length_append, ← HQ.out]; rfl⟩
          case measure => simp [intOf]; omega
    · obtain rfl : k = n := by omega
      go_wp2_with fail
      go_ret
      refine ⟨Ao, co, by rw [← HQ.out]; rfl, ?_, HE1.out.trans' HE.out⟩
      rw [← HQ.out]
      exact own_more HO.out HE1.out.size
theorem labHigh_any (g : Nat) (ws : List Wd) (os : List (Wd × Wd)) (A : Option Addr) (c m : Nat) (x : List Int) (w : World) (h : LatAt w g ws os) (gd : GoodL ws os) (hx : IntAt w w.heap.size A x) (hm : m = x.length) (hm' : m ≤ 9223372036854775807) :
    Calls Tryz.prog 18 #[.pointer (some ⟨g, 0, none⟩), .slice A m c] w (SeesPost (LatM.highTo (leqL ws os) (lvl ws.length x) ws.length) w) :=
  (labHighO_any g ws os A c m x w h gd hx hm hm').mono fun _ _ h => h.sees
theorem labHigh_nil (A : Option Addr) (c m : Nat) (w : World) : Calls Tryz.prog 18 #[.pointer none, .slice A m c] w (fun e w' => e = .returned (.slice none 0 0) ∧ Ext w w') := by
  obtain ⟨w1, hw1⟩ : ∃ w1, w1 = (w.alloc (.cells #[.pointer none] 28)).alloc (.cells #[.slice A m c] 34) := ⟨_, rfl⟩
  have hE1 : Ext w w1 := by rw [hw1]; exact ((Ext.rfl' w).alloc (Nat.le_refl _) _).alloc (by simp) _
  have hL1 : Blk w1 w.heap.size 28 #[.pointer none] := by rw [hw1]; exact (Blk.new _ _ _).alloc _
  have l0 := hL1.cell 0
  simp only [List.getElem?_toArray, List.getElem?_cons_zero] at l0
  have HE1 := hide hE1
  have HW1 := hide hw1
  clear hw1 hE1 hL1
  go_enter Tryz.func18, Tryz.ntmps18
  go_upto_region 1 with fail
  rw [← HW1.out]
  go_wp2_with fail
  refine (latLen_nil w1).mono ?_
  rintro e w' ⟨rfl, rfl⟩
  go_wp2_with fail
  go_loop [11, 5] (fun i o => i = .int .i64 0 ∧ o = .slice none 0 0) (fun _ _ => 0)
  case atStart => exact ⟨rfl, rfl⟩
  case round =>
    obtain ⟨rfl, rfl⟩ := hrel
    go_wp2_with fail
    go_ret
    exact ⟨rfl, HE1.out⟩
end Go.Proofs.YtpjlhpaenmfieaaGreat
