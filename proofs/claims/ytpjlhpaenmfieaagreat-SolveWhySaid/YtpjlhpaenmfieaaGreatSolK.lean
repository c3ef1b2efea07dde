/- solve: trace, walked. -/
import Derived.Test.YtpjlhpaenmfieaaGreatSolFl
namespace Go.Proofs.YtpjlhpaenmfieaaGreat
open Go.RowKit

def flowB (Q : Int → Int → Bool) (rs : List Ru) (lvl : Int) (d : Nat) (p : Int) (i : Nat) : Bool := (decide ((rl rs i).1 = 2) && decide ((rl rs i).2.2 = p)) && startsB Q rs (rl rs i).2.1 d lvl
def lowAt (Q : Int → Int → Bool) (rs : List Ru) (lvl : Int) (p : Int) (i : Nat) : Bool := (decide ((rl rs i).1 = 1) && decide ((rl rs i).2.2 = p)) && !Q (rl rs i).2.1 lvl
def fIdx (f : Nat → Bool) (n : Nat) : Option Nat := (List.range n).find? f
theorem fIdx_hit {f : Nat → Bool} {n k : Nat} (hk : k < n) (h0 : ∀ j, j < k → f j = false) (h : f k = true) : fIdx f n = some k := by
  unfold fIdx
  rw [List.find?_range_eq_some]
  exact ⟨h, List.mem_range.2 hk, fun j hj => by rw [h0 j hj]; rfl⟩
theorem fIdx_miss {f : Nat → Bool} {n : Nat} (h0 : ∀ j, j < n → f j = false) : fIdx f n = none := by
  unfold fIdx
  rw [List.find?_eq_none]
  intro j hj
  rw [h0 j (List.mem_range.1 hj)]; decide
/-- The flows that lead to a place, and from where. -/
def rowP (Q : Int → Int → Bool) (rs : List Ru) (lvl : Int) : Nat → Int → List Nat × Int
  | 0, p => ([], p)
  | d + 1, p => match fIdx (flowB Q rs lvl d p) rs.length with
    | some i => (i :: (rowP Q rs lvl d (rl rs i).2.1).1, (rowP Q rs lvl d (rl rs i).2.1).2)
    | none => rowP Q rs lvl d p
theorem rowP_hit {Q : Int → Int → Bool} {rs : List Ru} {lvl : Int} {d : Nat} {p : Int} {i : Nat} (h : fIdx (flowB Q rs lvl d p) rs.length = some i) : rowP Q rs lvl (d + 1) p = (i :: (rowP Q rs lvl d (rl rs i).2.1).1, (rowP Q rs lvl d (rl rs i).2.1).2) := by
  rw [rowP, h]
theorem rowP_miss {Q : Int → Int → Bool} {rs : List Ru} {lvl : Int} {d : Nat} {p : Int} (h : fIdx (flowB Q rs lvl d p) rs.length = none) : rowP Q rs lvl (d + 1) p = rowP Q rs lvl d p := by
  rw [rowP, h]
theorem rowP_le (Q : Int → Int → Bool) (rs : List Ru) (lvl : Int) (d : Nat) : ∀ p, (rowP Q rs lvl d p).1.length ≤ d := by
  induction d with
  | zero => intro p; exact Nat.le_refl _
  | succ d ih =>
    intro p
    rw [rowP]
    split
    · rename_i i _; have := ih (rl rs i).2.1; simp only [List.length_cons]; omega
    · have := ih p; omega
def flowsN (Q : Int → Int → Bool) (rs : List Ru) (h : Nat) : Nat := firstD (fun d => startsB Q rs (rl rs h).2.1 d (rl rs h).2.2) rs.length
def rowH (Q : Int → Int → Bool) (rs : List Ru) (h : Nat) : List Nat × Int := rowP Q rs (rl rs h).2.2 (flowsN Q rs h) (rl rs h).2.1
def traceL (Q : Int → Int → Bool) (rs : List Ru) (h : Nat) : List Nat := (h :: (rowH Q rs h).1 ++ (fIdx (lowAt Q rs (rl rs h).2.2 (rowH Q rs h).2) rs.length).toList).reverse
theorem firstD_le (f : Nat → Bool) (n : Nat) : firstD f n ≤ n := by
  unfold firstD
  cases h : (List.range n).find? f with
  | none => exact Nat.le_refl _
  | some k => have := List.mem_range.1 (List.mem_of_find?_eq_some h); show k ≤ n; omega
theorem RevAt.of_own {w : World} {base g n c : Nat} {l : List Nat} (h : w.ownsRow base 3 1 (.slice (some ⟨g, 0, none⟩) n c) n (natCells l)) (hn : n = l.length) (hn0 : 0 < n) : base ≤ g ∧ RevAt w g n l 0 := by
  obtain ⟨_, h⟩ := h
  rcases h with ⟨h1, _⟩ | ⟨g', cap, cur, h1, h2, h3, h4, h5, h6, h7⟩
  · cases h1
  · injection h1 with h1
    injection h1 with h1
    injection h1 with h1
    subst h1
    refine ⟨h2, cur, h3, fun p hp => ?_⟩
    unfold revI
    rw [if_neg (by omega)]
    have e : cur.toList[p]? = (natCells l)[p]? := by
      rw [← h7, List.getElem?_take, if_pos (by omega)]
    rw [← Array.getElem?_toList, e]
    unfold natCells
    rw [List.getElem?_map, List.getD_eq_getElem?_getD, List.getElem?_eq_getElem (by omega)]
    rfl
theorem rev_own (base : Nat) (A : Option Addr) (c q : Nat) (l : List Nat) (W w : World) (hW : W.heap.size ≤ base) (hE : Ext W w) (hO : w.ownsRow base 3 1 (.slice A q c) q (natCells l)) (hq : q = l.length) (h0 : 0 < q) (hb : q ≤ 1000000) :
    Calls Tryz.prog 101 #[.slice A q c] w (fun e w' => e = .returned (.tuple #[]) ∧ NatAt w' w'.heap.size A l.reverse ∧ Ext W w') := by
  obtain ⟨g, rfl⟩ : ∃ g, A = some ⟨g, 0, none⟩ := by
    obtain ⟨_, h⟩ := hO
    rcases h with ⟨_, h2⟩ | ⟨g', cap, cur, h1, _⟩
    · omega
    · injection h1 with h1; exact ⟨_, h1⟩
  obtain ⟨h1, h2⟩ := RevAt.of_own hO hq h0
  exact reverse_any g c q l W w (Nat.le_trans hW h1) hE h2 hq h0 hb
theorem own_one (w : World) (v : Nat) : (w.alloc (.cells #[.int .i64 (v : Nat)] 3)).ownsRow w.heap.size 3 1 (.slice (some ⟨w.heap.size, 0, none⟩) 1 1) 1 (natCells [v]) :=
  ⟨rfl, .inr ⟨w.heap.size, 1, #[.int .i64 (v : Nat)], rfl, Nat.le_refl _, heap_alloc_new w _, Nat.le_refl _, by unfold maxLen; omega, rfl, rfl⟩⟩

set_option maxRecDepth 100000 in
set_option maxHeartbeats 8000000 in
theorem trace_any (p : Option Addr) (Q : Int → Int → Bool) (A : Option Addr) (c m h : Nat) (rs : List Ru) (w : World) (hr : RlsAt w w.heap.size A rs) (hm : m = rs.length) (hm' : m ≤ 100000) (hh : h < m)
    (hlq : ∀ w1, Ext w w1 → ∀ u v : Int, Calls Tryz.prog 51 #[.pointer p, .int .i64 u, .int .i64 v] w1 (fun e w' => e = .returned (.bool (Q u v)) ∧ w1 = w')) :
    Calls Tryz.prog 67 #[.slice A m c, .int .i64 h, .pointer p] w (SeesPost (traceL Q rs h) w) := by
  have HFL := hide (fun (pl lvl : Int) (w1 : World) (h1 : Ext w w1) => flows_any p Q A c m rs pl lvl w1 (hr.ext h1) hm (by omega) (fun w2 h2 => hlq w2 (h1.trans' h2)))
  have HST := hide (fun (pl lvl : Int) (d : Nat) (hd : d ≤ m) (w1 : World) (h1 : Ext w w1) => starts_any p Q A c m rs pl lvl d w1 (hr.ext h1) hm (by omega) (by omega) (fun w2 h2 => hlq w2 (h1.trans' h2)))
  have HLQ := hide hlq
  have HM := hide hm
  have HRS := hide hr
  have hhl : h < rs.length := by rw [← hm]; exact hh
  obtain ⟨b, o, rfl, hbs, hcell⟩ := hr.cell (by omega)
  have HBS := hide hbs
  have HCELL := hide hcell
  obtain ⟨z0, z1, z2⟩ := hcell h hhl
  obtain ⟨rH, hrH⟩ : ∃ r, r = rl rs h := ⟨_, rfl⟩
  rw [← hrH] at z0 z1 z2
  obtain ⟨a0, a1, a2⟩ := rH
  have HRH := hide hrH
  obtain ⟨w1, hw1⟩ : ∃ w1, w1 = w.alloc (.cells #[.int .i64 (h : Nat)] 3) := ⟨_, rfl⟩
  obtain ⟨g1, hg1⟩ : ∃ g1, g1 = w.heap.size := ⟨_, rfl⟩
  have hE1 : Ext w w1 := by rw [hw1]; exact (Ext.rfl' w).alloc (Nat.le_refl _) _
  have hO1 := own_one w h
  rw [← hw1] at hO1
  have y1 := (hE1.cell (p := ⟨b, o + h * 3 + 1, none⟩) hbs).trans z1
  have y2 := (hE1.cell (p := ⟨b, o + h * 3 + 2, none⟩) hbs).trans z2
  have HZ2 := hide z2
  have hfl := HFL.out a1 a2 w1 hE1
  have hD0 : firstD (fun d => startsB Q rs a1 d a2) m = flowsN Q rs h := by unfold flowsN; rw [← hrH, hm]
  rw [hD0] at hfl
  have hDm : flowsN Q rs h ≤ m := by rw [← hD0]; exact firstD_le _ _
  have hROW : rowH Q rs h = rowP Q rs a2 (flowsN Q rs h) a1 := by unfold rowH; rw [← hrH]
  have hTR : traceL Q rs h = (h :: (rowH Q rs h).1 ++ (fIdx (lowAt Q rs a2 (rowH Q rs h).2) rs.length).toList).reverse := by unfold traceL; rw [← hrH]
  obtain ⟨TL, hTL⟩ : ∃ TL, TL = traceL Q rs h := ⟨_, rfl⟩
  rw [← hTL] at hTR ⊢
  clear hTL
  obtain ⟨D, hD⟩ : ∃ D, D = flowsN Q rs h := ⟨_, rfl⟩
  rw [← hD] at hfl hDm hROW
  obtain ⟨RW, hRW⟩ : ∃ RW, RW = rowH Q rs h := ⟨_, rfl⟩
  rw [← hRW] at hROW hTR
  have HTR := hide hTR
  have HFLO := hide hfl
  have HROW := hide hROW
  have HE1 := hide hE1
  have HO1 := hide hO1
  have HW1 := hide hw1
  have HG1 := hide hg1
  have hi0 : (0 : Int) ≤ (h : Int) := by omega
  have hi1 : (h : Int) < (m : Int) := by omega
  rw [← hg1] at HO1
  clear hm hr hlq hbs hcell hrH hw1 hg1 hE1 hO1 z0 z1 z2 hfl hD0 hROW hTR hD hRW HFL hhl
  go_enter Tryz.func67, Tryz.ntmps67
  go_upto_region 2 with fail
  rw [← HW1.out, ← HG1.out]
  go_wp2_with fail
  refine HFLO.out.mono ?_
  rintro e w2 ⟨rfl, hE2⟩
  have HE2 := hide (HE1.out.trans' hE2)
  have HO2 := hide (own_ext HO1.out hE2)
  clear hE2 y1 y2 HFLO HO1
  go_wp2_with fail
  go_loopw [9, 8, 7] (fun sd sp so wr => ∃ (d q : Nat) (pt : Int) (Ao : Option Addr) (co : Nat) (acc : List Nat), sd = .int .i64 d ∧ sp = .int .i64 pt ∧ so = .slice Ao q co ∧ d ≤ D ∧ Ext w wr ∧ wr.ownsRow g1 3 1 (.slice Ao q co) q (natCells acc) ∧ q = acc.length ∧ 0 < q ∧ q + d ≤ D + 1 ∧ Hid (acc ++ (rowP Q rs a2 d pt).1 = h :: RW.1 ∧ (rowP Q rs a2 d pt).2 = RW.2)) (fun sd _ _ _ => (intOf sd).toNat)
  case atStart => exact ⟨D, 1, a1, _, _, [h], rfl, rfl, rfl, Nat.le_refl _, HE2.out, HO2.out, rfl, by omega, by omega, hide ⟨by rw [← HROW.out]; rfl, by rw [← HROW.out]⟩⟩
  case round =>
    rename World => wo
    obtain ⟨d, q, pt, Ao, co, acc, rfl, rfl, rfl, hd, hE, hO, hq, hq0, hqd, HACC⟩ := hrel
    have HE := hide hE
    have HO := hide hO
    have HQL := hide hq
    clear hE hO hq
    cases d with
    | zero =>
      have HLOWX := hide (show ∀ z, fIdx (lowAt Q rs a2 pt) rs.length = z → (acc ++ z.toList).reverse = TL from fun z hz => by
        rw [HTR.out]
        have h1 := HACC.out
        rw [rowP, List.append_nil] at h1
        rw [← h1.2, hz, h1.1])
      have HEND := hide (fun (A9 : Option Addr) (c9 q9 : Nat) (l9 : List Nat) (w9 : World) (hE9 : Ext w w9) (hO9 : w9.ownsRow g1 3 1 (.slice A9 q9 c9) q9 (natCells l9)) (hq9 : q9 = l9.length) (hp9 : 0 < q9) (hb9 : q9 ≤ 1000000) => rev_own g1 A9 c9 q9 l9 w w9 (by rw [HG1.out]; exact Nat.le_refl _) hE9 hO9 hq9 hp9 hb9)
      clear HACC
      go_wp2_with fail
      go_loopw [73, 7] (fun i so wx => ∃ k : Nat, k ≤ m ∧ i = .int .i64 k ∧ so = .slice Ao q co ∧ Ext wo wx ∧ Hid (∀ e, e < k → lowAt Q rs a2 pt e = false)) (fun i _ _ => m - (intOf i).toNat)
      case atStart => exact ⟨0, Nat.zero_le _, rfl, rfl, Ext.rfl' _, hide fun e he => absurd he (by omega)⟩
      case round =>
        obtain ⟨k, hk, rfl, rfl, hEx, HNO⟩ := hrel
        have HEx := hide hEx
        by_cases hkm : k < m
        · have hEw := HE.out.trans' hEx
          obtain ⟨z0, z1, z2⟩ := HCELL.out k (by rw [← HM.out]; exact hkm)
          have q0 := (hEw.cell (p := ⟨b, o + k * 3, none⟩) HBS.out).trans z0
          have q1 := (hEw.cell (p := ⟨b, o + k * 3 + 1, none⟩) HBS.out).trans z1
          have q2 := (hEw.cell (p := ⟨b, o + k * 3 + 2, none⟩) HBS.out).trans z2
          have hfb : lowAt Q rs a2 pt k = ((decide ((rl rs k).1 = 1) && decide ((rl rs k).2.2 = pt)) && !Q (rl rs k).2.1 a2) := rfl
          obtain ⟨r, hr⟩ : ∃ r, r = rl rs k := ⟨_, rfl⟩
          rw [← hr] at q0 q1 q2 hfb
          obtain ⟨r0, r1, r2⟩ := r
          simp only at hfb
          obtain ⟨w5, hw5⟩ : ∃ w5, w5 = wr.alloc (.cells #[.int .i64 r0, .int .i64 r1, .int .i64 r2] 106) := ⟨_, rfl⟩
          obtain ⟨g5, hg5⟩ : ∃ g, g = wr.heap.size := ⟨_, rfl⟩
          have hV : Blk w5 g5 106 #[.int .i64 r0, .int .i64 r1, .int .i64 r2] := by rw [hw5, hg5]; exact Blk.new _ _ _
          have hEx5 : Ext wr w5 := by rw [hw5]; exact (Ext.rfl' wr).alloc (Nat.le_refl _) _
          have HE5 := hide (hEx.trans' hEx5)
          have HEW5 := hide (hEw.trans' hEx5)
          have t2 := (HEW5.out.cell (p := ⟨b, o + h * 3 + 2, none⟩) HBS.out).trans HZ2.out
          have HW5 := hide hw5
          have HG5 := hide hg5
          have v0 := hV.cell 0
          have v1 := hV.cell 1
          have v2 := hV.cell 2
          simp only [List.getElem?_toArray, List.getElem?_cons_zero, List.getElem?_cons_succ] at v0 v1 v2
          obtain ⟨z, hz⟩ : ∃ z, z = lowAt Q rs a2 pt k := ⟨_, rfl⟩
          have HZ := hide hz
          rw [← hz] at hfb
          have HFB := hide hfb
          clear z0 z1 z2 hr hw5 hg5 hV hEx hEx5 hEw hz hfb
          go_upto_region 16 with fail
          rw [← HW5.out, ← HG5.out]
          clear q0 q1 q2
          go_cut [98] (fun v wx => v = .bool z ∧ Ext w5 wx)
          case first =>
            by_cases c1 : r0 = 1
            · by_cases c2 : r2 = pt
              · subst c1
                subst c2
                have HQ := hide (fun (j : Nat) => quiet_left (n := j) (HLQ.out (w5.drewN j) (below_drewN HEW5.out j) r1 a2))
                obtain ⟨qq, hqq⟩ : ∃ q, q = Q r1 a2 := ⟨_, rfl⟩
                rw [← hqq] at HQ
                have hzz : z = !qq := by rw [HFB.out, hqq]; simp
                clear hqq
                subst hzz
                go_quiet ((go_at_call 51; with_reducible exact HQ.out _))
                go_wp2_with fail
                go_meet
                exact ⟨rfl, below_drewN (Ext.rfl' _) _⟩
              · subst c1
                have e2 : (r2 == pt) = false := by simpa using c2
                have hzz : z = false := by rw [HFB.out]; simp [c2]
                clear c2
                subst hzz
                go_quiet (fail)
                go_wp2_with fail
                go_meet
                exact ⟨rfl, below_drewN (Ext.rfl' _) _⟩
            · have e1 : (r0 == 1) = false := by simpa using c1
              have hzz : z = false := by rw [HFB.out]; simp [c1]
              clear c1
              subst hzz
              go_quiet (fail)
              go_wp2_with fail
              go_meet
              exact ⟨rfl, below_drewN (Ext.rfl' _) _⟩
          case rest =>
            obtain ⟨rfl, hEc⟩ := hcut
            have HEc := hide (HE5.out.trans' hEc)
            have HEWc := hide (HEW5.out.trans' hEc)
            clear hEc v0 v1 v2 t2
            cases z with
            | true =>
              have HX := hide (HLOWX.out _ (fIdx_hit (f := lowAt Q rs a2 pt) (n := rs.length) (show k < rs.length by rw [← HM.out]; exact hkm) HNO.out HZ.out.symm))
              have HXL := hide (show TL.length = q + 1 by rw [← HX.out, List.length_reverse, Option.toList, List.length_append, ← HQL.out]; rfl)
              have HOc := hide (own_ext HO.out HEc.out)
              have hgs : g1 ≤ wc.heap.size := by rw [HG1.out]; exact HEWc.out.size
              go_wp2_with (at_builtin; refine wpList_append_Nat _ rfl _ _ rfl g1 _ q acc rfl wc.heap.size k _ rfl (HOc.out.alloc _) (reads_new _ _ _) (by omega) (by simp; omega) ?_)
              intro A3 c3 w3 hown3 hgrow3 _
              have HE3 := hide (grown_ext' (w := w) (wr := wc) (base := g1) HEWc.out ((Ext.rfl' wc).alloc (Nat.le_refl _) _) hgrow3 HOc.out (by rw [HG1.out]; exact Nat.le_refl _))
              have HRV := hide (HEND.out A3 c3 (q + 1) (acc ++ [k]) w3 HE3.out hown3 (by rw [List.length_append, ← HQL.out]; rfl) (by omega) (by omega))
              clear hown3 hgrow3
              go_wp2_with fail
              refine HRV.out.mono ?_
              rintro e w9 ⟨rfl, hN9, hE9⟩
              have HN9 := hide hN9
              have HE9 := hide hE9
              clear hN9 hE9
              go_wp2_with fail
              go_ret
              exact ⟨A3, c3, by rw [HXL.out]; rfl, by rw [← HX.out]; exact HN9.out, HE9.out⟩
            | false =>
              have HNO2 := hide (show ∀ e, e < k + 1 → lowAt Q rs a2 pt e = false from fun e he => by
                by_cases h : e = k
                · subst h; exact HZ.out.symm
                · exact HNO.out e (by omega))
              go_wp2_with fail
              go_roundw
              case rel => exact ⟨k + 1, by omega, by go_num, rfl, HEc.out, HNO2⟩
              case measure => simp [intOf]; omega
        · obtain rfl : k = m := by omega
          have HX := hide (HLOWX.out none (fIdx_miss (f := lowAt Q rs a2 pt) (n := rs.length) (by rw [← HM.out]; exact HNO.out)))
          have HXL := hide (show TL.length = q by rw [← HX.out, List.length_reverse, Option.toList, List.append_nil, ← HQL.out])
          have HRV := hide (HEND.out Ao co q acc wr (HE.out.trans' hEx) (own_ext HO.out hEx) HQL.out hq0 (by omega))
          clear hEx
          go_wp2_with fail
          refine HRV.out.mono ?_
          rintro e w9 ⟨rfl, hN9, hE9⟩
          have HN9 := hide hN9
          have HE9 := hide hE9
          clear hN9 hE9
          go_wp2_with fail
          go_ret
          exact ⟨Ao, co, by rw [HXL.out]; rfl, by rw [← HX.out, Option.toList, List.append_nil]; exact HN9.out, HE9.out⟩
    | succ d =>
      have hdw : IntKind.i64.wrap ((((d + 1 : Nat) : Int)) - 1) = (d : Int) := by
        rw [show (((d + 1 : Nat) : Int)) - 1 = (d : Int) by omega]
        exact IntWalk.i64_in _ (by omega)
      have hd0 : (0 : Int) < ((d + 1 : Nat) : Int) := by omega
      obtain ⟨dz, hdz⟩ : ∃ dz : Int, dz = ((d + 1 : Nat) : Int) := ⟨_, rfl⟩
      have HDZ := hide hdz
      rw [← hdz] at hdw hd0
      rw [← hdz]
      clear hdz
      go_wp2_with fail
      go_loopw [36, 8, 7] (fun i sp so wx => ∃ k : Nat, k ≤ m ∧ i = .int .i64 k ∧ sp = .int .i64 pt ∧ so = .slice Ao q co ∧ Ext wo wx ∧ Hid (∀ e, e < k → flowB Q rs a2 d pt e = false)) (fun i _ _ _ => m - (intOf i).toNat)
      case atStart => exact ⟨0, Nat.zero_le _, rfl, rfl, rfl, Ext.rfl' _, hide fun e he => absurd he (by omega)⟩
      case round =>
        obtain ⟨k, hk, rfl, rfl, rfl, hEx, HNO⟩ := hrel
        have HEx := hide hEx
        by_cases hkm : k < m
        · have hEw := HE.out.trans' hEx
          obtain ⟨z0, z1, z2⟩ := HCELL.out k (by rw [← HM.out]; exact hkm)
          have q0 := (hEw.cell (p := ⟨b, o + k * 3, none⟩) HBS.out).trans z0
          have q1 := (hEw.cell (p := ⟨b, o + k * 3 + 1, none⟩) HBS.out).trans z1
          have q2 := (hEw.cell (p := ⟨b, o + k * 3 + 2, none⟩) HBS.out).trans z2
          have hfb : flowB Q rs a2 d pt k = ((decide ((rl rs k).1 = 2) && decide ((rl rs k).2.2 = pt)) && startsB Q rs (rl rs k).2.1 d a2) := rfl
          obtain ⟨r, hr⟩ : ∃ r, r = rl rs k := ⟨_, rfl⟩
          rw [← hr] at q0 q1 q2 hfb
          obtain ⟨r0, r1, r2⟩ := r
          simp only at hfb
          obtain ⟨w5, hw5⟩ : ∃ w5, w5 = wr.alloc (.cells #[.int .i64 r0, .int .i64 r1, .int .i64 r2] 106) := ⟨_, rfl⟩
          obtain ⟨g5, hg5⟩ : ∃ g, g = wr.heap.size := ⟨_, rfl⟩
          have hV : Blk w5 g5 106 #[.int .i64 r0, .int .i64 r1, .int .i64 r2] := by rw [hw5, hg5]; exact Blk.new _ _ _
          have hEx5 : Ext wr w5 := by rw [hw5]; exact (Ext.rfl' wr).alloc (Nat.le_refl _) _
          have HE5 := hide (hEx.trans' hEx5)
          have HEW5 := hide (hEw.trans' hEx5)
          have HW5 := hide hw5
          have HG5 := hide hg5
          have HV := hide hV
          have HR := hide hr
          obtain ⟨z, hz⟩ : ∃ z, z = flowB Q rs a2 d pt k := ⟨_, rfl⟩
          have HZ := hide hz
          rw [← hz] at hfb
          have HFB := hide hfb
          clear z0 z1 z2 hr hw5 hg5 hV hEx hEx5 hEw hz hfb
          go_upto_region 9 with fail
          rw [← HW5.out, ← HG5.out]
          clear q0 q1 q2
          go_cut [63] (fun v wx => v = .bool z ∧ Ext w5 wx)
          case first =>
            have v0 := HV.out.cell 0
            have v1 := HV.out.cell 1
            have v2 := HV.out.cell 2
            simp only [List.getElem?_toArray, List.getElem?_cons_zero, List.getElem?_cons_succ] at v0 v1 v2
            by_cases c1 : r0 = 2
            · by_cases c2 : r2 = pt
              · subst c1
                subst c2
                refine wp_region_ext (by kernel_rfl) (by kernel_rfl) w5 (Ext.rfl' _) ?_
                intro I _ f hf hc
                have u0 : ∀ n, (f n).cell? ⟨g5, 0, none⟩ = some (.int .i64 2) := fun n => (HV.out.ext (hf n)).cell 0
                have u1 : ∀ n, (f n).cell? ⟨g5, 1, none⟩ = some (.int .i64 r1) := fun n => (HV.out.ext (hf n)).cell 1
                have u2 : ∀ n, (f n).cell? ⟨g5, 2, none⟩ = some (.int .i64 r2) := fun n => (HV.out.ext (hf n)).cell 2
                have t2 : ∀ n, (f n).cell? ⟨b, o + h * 3 + 2, none⟩ = some (.int .i64 a2) := fun n => ((HEW5.out.trans' (hf n)).cell (p := ⟨b, o + h * 3 + 2, none⟩) HBS.out).trans HZ2.out
                have hst := fun n => fam_ext hf hc (HST.out r1 a2 d (by omega) (f n) (HEW5.out.trans' (hf n)))
                have hzz : startsB Q rs r1 d a2 = z := by rw [HFB.out]; simp
                rw [hzz] at hst
                have H1 := hide hst
                have HF := hide hf
                clear hf hc hst hzz v0 v1 v2
                repeat (go_big_quiet_step ((first
                  | (go_at_call 100; with_reducible exact H1.out _))))
                refine wpQuiet_nil ?_
                rintro _ ⟨nq, rfl⟩
                go_wp2_with fail
                go_meet
                exact ⟨rfl, HF.out nq⟩
              · subst c1
                have e2 : (r2 == pt) = false := by simpa using c2
                have hzz : z = false := by rw [HFB.out]; simp [c2]
                clear c2
                subst hzz
                go_quiet (fail)
                go_wp2_with fail
                go_meet
                exact ⟨rfl, below_drewN (Ext.rfl' _) _⟩
            · have e1 : (r0 == 2) = false := by simpa using c1
              have hzz : z = false := by rw [HFB.out]; simp [c1]
              clear c1
              subst hzz
              go_quiet (fail)
              go_wp2_with fail
              go_meet
              exact ⟨rfl, below_drewN (Ext.rfl' _) _⟩
          case rest =>
            obtain ⟨rfl, hEc⟩ := hcut
            have HEc := hide (HE5.out.trans' hEc)
            have HEWc := hide (HEW5.out.trans' hEc)
            have HVc := hide (HV.out.ext hEc)
            clear hEc
            cases z with
            | true =>
              have HHT := hide (rowP_hit (fIdx_hit (f := flowB Q rs a2 d pt) (n := rs.length) (show k < rs.length by rw [← HM.out]; exact hkm) HNO.out HZ.out.symm))
              have HOc := hide (own_ext HO.out HEc.out)
              have hgs : g1 ≤ wc.heap.size := by rw [HG1.out]; exact HEWc.out.size
              have HG5o := hide (show wo.heap.size ≤ g5 by rw [HG5.out]; exact HEx.out.size)
              go_wp2_with (at_builtin; refine wpList_append_Nat _ rfl _ _ rfl g1 _ q acc rfl wc.heap.size k _ rfl (HOc.out.alloc _) (reads_new _ _ _) (by omega) (by simp; omega) ?_)
              intro A3 c3 w3 hown3 hgrow3 _
              have HE3 := hide (grown_ext' (w := w) (wr := wc) (base := g1) HEWc.out ((Ext.rfl' wc).alloc (Nat.le_refl _) _) hgrow3 HOc.out (by rw [HG1.out]; exact Nat.le_refl _))
              have hV3 := grown_blk (HVc.out.alloc _) hgrow3 HO.out (.inr HG5o.out)
              have v1 := hV3.cell 1
              simp only [List.getElem?_toArray, List.getElem?_cons_zero, List.getElem?_cons_succ] at v1
              have HO3 := hide hown3
              clear hown3 hgrow3 hV3
              go_wp2_with fail
              go_roundw
              case rel => exact ⟨d, q + 1, r1, A3, c3, acc ++ [k], rfl, rfl, rfl, by omega, HE3.out, HO3.out, by rw [List.length_append, ← HQL.out]; rfl, by omega, by omega, hide (by
                have h1 := HACC.out
                rw [HHT.out, ← HR.out] at h1
                exact ⟨by rw [← h1.1, List.append_assoc]; rfl, h1.2⟩)⟩
              case measure => have := HDZ.out; simp [intOf]; omega
            | false =>
              have HNO2 := hide (show ∀ e, e < k + 1 → flowB Q rs a2 d pt e = false from fun e he => by
                by_cases h : e = k
                · subst h; exact HZ.out.symm
                · exact HNO.out e (by omega))
              go_wp2_with fail
              go_roundw
              case rel => exact ⟨k + 1, by omega, by go_num, rfl, rfl, HEc.out, HNO2⟩
              case measure => simp [intOf]; omega
        · obtain rfl : k = m := by omega
          have HMS := hide (rowP_miss (fIdx_miss (f := flowB Q rs a2 d pt) (n := rs.length) (by rw [← HM.out]; exact HNO.out)))
          have HOx := hide (own_ext HO.out hEx)
          have HEw := hide (HE.out.trans' hEx)
          clear hEx
          go_wp2_with fail
          go_roundw
          case rel => exact ⟨d, q, pt, Ao, co, acc, rfl, rfl, rfl, by omega, HEw.out, HOx.out, HQL.out, hq0, by omega, hide (by rw [← HMS.out]; exact HACC.out)⟩
          case measure => have := HDZ.out; simp [intOf]; omega
end Go.Proofs.YtpjlhpaenmfieaaGreat
