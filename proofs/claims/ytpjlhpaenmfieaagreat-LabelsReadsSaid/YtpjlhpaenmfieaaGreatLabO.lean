/- The law LabelsReads, walked. -/
import Derived.Test.YtpjlhpaenmfieaaGreatLabG
import Derived.Test.YtpjlhpaenmfieaaGreatLabN
import Derived.Deep.RegionHeld3
namespace Go.Proofs.YtpjlhpaenmfieaaGreat
open Go.RowKit

theorem Blk.drew' {w : World} {g : Nat} {t : TypeId} {cs : Array Value} (h : Blk w g t cs) : Blk w.drew g t cs := h
theorem parseF_two (ws : List Wd) (s : ByteArray) : ∀ (f i : Nat) (acc : List Nat), (parseF ws s f i acc).2 = (0, 0) ∨ (parseF ws s f i acc).1 = [] := by
  intro f
  induction f with
  | zero => intro i acc; exact .inl rfl
  | succ f ih =>
    intro i acc
    rw [parseF]
    cases pBad ws s i with
    | some x => exact .inr rfl
    | none =>
      simp only []
      split
      · exact .inl rfl
      · exact ih _ _
theorem nat_two {w : World} {gb : Nat} {A : Option Addr} {H : List Nat} {f1 f2 : Int} (hB : Blk w gb 31 #[.int .i64 0, .int .i64 0]) (h : NatAt w w.heap.size A H) (hf : (f1 = 0 ∧ f2 = 0) ∨ H = []) :
    NatAt ((w.setCell ⟨gb, 0, none⟩ (.int .i64 f1)).setCell ⟨gb, 1, none⟩ (.int .i64 f2)) ((w.setCell ⟨gb, 0, none⟩ (.int .i64 f1)).setCell ⟨gb, 1, none⟩ (.int .i64 f2)).heap.size A H := by
  rcases hf with ⟨rfl, rfl⟩ | rfl
  · rw [setCell_same w hB rfl, setCell_same w hB rfl]; exact h
  · exact Reads.none_
def ReadPost (H : List Nat) (f1 f2 : Int) (W : World) (v p : Value) (w' : World) : Prop := ∃ A c gb, v = .slice A H.length c ∧ p = .pointer (some ⟨gb, 0, none⟩) ∧ Blk w' gb 31 #[.int .i64 f1, .int .i64 f2] ∧ NatAt w' w'.heap.size A H ∧ Ext W w'

set_option maxRecDepth 100000 in
set_option maxHeartbeats 4000000 in
theorem labReads_any (A : Option Addr) (c n : Nat) (ws : List Wd) (A2 : Option Addr) (c2 m : Nat) (os : List (Wd × Wd)) (s : ByteArray) (w : World) (h : WdsAt w w.heap.size A ws) (hsz : ∀ i, (wNm ws i).size ≤ maxLen) (hn : n = ws.length) (h2 : OdsAt w w.heap.size A2 os) (hm : m = os.length) (hs' : s.size ≤ 9223372036854775807) :
    Calls Tryz.prog 3 #[.agg #[.slice A n c, .slice A2 m c2], .string s] w (BoolPost true w) := by
  obtain ⟨w0, hw0⟩ : ∃ w0, w0 = w.alloc (.cells #[.slice A n c, .slice A2 m c2] 25) := ⟨_, rfl⟩
  obtain ⟨gw, hgw⟩ : ∃ g, g = w.heap.size := ⟨_, rfl⟩
  have hB : Blk w0 gw 25 #[.slice A n c, .slice A2 m c2] := by rw [hw0, hgw]; exact Blk.new _ _ _
  have hE0 : Ext w w0 := by rw [hw0]; exact (Ext.rfl' w).alloc (Nat.le_refl _) _
  have HGr := hide (labGreat_any A c n ws A2 c2 m os w0 (h.ext hE0) hsz hn (h2.ext hE0) hm)
  have HBd := hide (fun (w1 : World) (hE : Ext w w1) => build_any A c n ws A2 c2 m os w1 (h.ext hE) hsz hn (h2.ext hE) hm)
  have HLq := hide (fun (w1 : World) (hE : Ext w w1) (h64 : n ≤ 64) (h1000 : m ≤ 1000) (hok : okPs ws.length (prs ws os) = true) => refLeq_any A c n ws A2 c2 m os w1 (h.ext hE) hn h64 (h2.ext hE) hm h1000 hok)
  have HRf := hide (fun (w1 : World) (hE : Ext w w1) (A4 : Option Addr) (c4 : Nat) (M : List (List Bool)) (hM : MatAt w1 w1.heap.size A4 M) (hsq : ∀ r ∈ M, r.length = M.length) (hMl : n = M.length) (hmat : mat M = leqL ws os) (h64 : n ≤ 64) (hs1 : s.size ≤ 1000000) => refParse_any A c n ws os A4 c4 M s w1 (h.ext hE) hn h64 hM hsq hMl hmat hs1)
  have HN := hide hn
  have HM := hide hm
  have HBW := hide hB
  have HW0 := hide hw0
  have HGW := hide hgw
  have HE0 := hide hE0
  have w00 := hB.cell 0
  have w01 := hB.cell 1
  simp only [List.getElem?_toArray, List.getElem?_cons_zero, List.getElem?_cons_succ] at w00 w01
  clear h h2 hn hm hsz hB hw0 hgw hE0
  go_enter Tryz.func3, Tryz.ntmps3
  go_upto_region 1 with fail
  rw [← HW0.out, ← HGW.out]
  go_wp2_with fail
  refine HGr.out.mono ?_
  rintro e w1 ⟨r, rfl, hr, hE1⟩
  have HE1 := hide (HE0.out.trans' hE1)
  have HBW1 := hide (HBW.out.ext hE1)
  have HR := hide hr
  clear hr hE1 HE0 HBW w00 w01
  cases r with
  | true =>
    go_wp2_with fail
    refine (labLives_any w1).mono ?_
    rintro e w2 ⟨rfl, hE2⟩
    go_wp2_with fail
    go_ret
    exact ⟨rfl, HE1.out.trans' hE2⟩
  | false =>
    have hw0 := HR.out rfl
    have gd := good_of (show (wrongL ws os).1 = 0 by rw [hw0])
    have HGD := hide gd
    have n64 : n ≤ 64 := by have := gd.few; rw [HN.out]; omega
    have m1000 : m ≤ 1000 := by have := gd.fewO; rw [HM.out]; omega
    have HWZ := hide hw0
    clear hw0 gd HR
    by_cases hq1 : (1000 : Int) < (s.size : Int)
    · go_wp2_with fail
      refine (labLives_any w1).mono ?_
      rintro e w2 ⟨rfl, hE2⟩
      go_wp2_with fail
      go_ret
      exact ⟨rfl, HE1.out.trans' hE2⟩
    · have w10 := HBW1.out.cell 0
      have w11 := HBW1.out.cell 1
      simp only [List.getElem?_toArray, List.getElem?_cons_zero, List.getElem?_cons_succ] at w10 w11
      go_wp2_with fail
      refine (HBd.out w1 HE1.out).mono ?_
      rintro e w2 (⟨hw, _, _⟩ | ⟨_, g, rfl, hL, hE2⟩)
      · exact absurd (by rw [HWZ.out]) hw
      rw [show fltV (0, 0) = .agg #[.int .i64 0, .int .i64 0] from rfl]
      obtain ⟨w3, hw3⟩ : ∃ w3, w3 = w2.alloc (.cells #[.int .i64 0, .int .i64 0] 31) := ⟨_, rfl⟩
      have hE23 : Ext w2 w3 := by rw [hw3]; exact (Ext.rfl' w2).alloc (Nat.le_refl _) _
      have HE3 := hide ((HE1.out.trans' hE2).trans' hE23)
      have HL3 := hide (hL.ext hE23)
      have HBW3 := hide (HBW1.out.ext (hE2.trans' hE23))
      have HW3 := hide hw3
      clear hw3 hE23 hE2 hL HE1 HBW1 w10 w11 HBd
      go_upto_region 4 with fail
      rw [← HW3.out]
      go_wp2_with fail
      refine (labParse_any g ws os s w3 HL3.out HGD.out (by omega)).mono ?_
      rintro e w5 ⟨Aa, ca, rfl, hNa, hE5⟩
      have htwo := parseF_two ws s (s.size + 1) 0 []
      rw [show parseF ws s (s.size + 1) 0 [] = parseL ws s from rfl] at htwo
      obtain ⟨H, hH⟩ : ∃ H, H = LatM.highTo (leqL ws os) (parseL ws s).1 ws.length := ⟨_, rfl⟩
      obtain ⟨f1, hf1⟩ : ∃ f, f = (parseL ws s).2.1 := ⟨_, rfl⟩
      obtain ⟨f2, hf2⟩ : ∃ f, f = (parseL ws s).2.2 := ⟨_, rfl⟩
      have eF : fltV (parseL ws s).2 = .agg #[.int .i64 f1, .int .i64 f2] := by rw [hf1, hf2]; rfl
      have HTWO := hide (show (f1 = 0 ∧ f2 = 0) ∨ H = [] by
        rcases htwo with e | e
        · exact .inl ⟨by rw [hf1, e], by rw [hf2, e]⟩
        · exact .inr (by rw [hH, e, high_none]))
      rw [← hH] at hNa ⊢
      rw [eF]
      have HHE := hide hH
      have HEF := hide eF
      obtain ⟨z, hz⟩ : ∃ z, z = H.length := ⟨_, rfl⟩
      rw [← hz]
      have HZ := hide hz
      have hzl : z ≤ 1000000 := by rw [hz, hH]; have := LatM.highTo_le (leqL ws os) (parseL ws s).1 ws.length; have := HGD.out.few; omega
      obtain ⟨w6, hw6⟩ : ∃ w6, w6 = w5.alloc (.cells #[.int .i64 f1, .int .i64 f2] 31) := ⟨_, rfl⟩
      obtain ⟨ga, hga⟩ : ∃ g, g = w5.heap.size := ⟨_, rfl⟩
      have hE56 : Ext w5 w6 := by rw [hw6]; exact (Ext.rfl' w5).alloc (Nat.le_refl _) _
      have HBA := hide (show Blk w6 ga 31 #[.int .i64 f1, .int .i64 f2] by rw [hw6, hga]; exact Blk.new _ _ _)
      have HNa := hide ((hNa.ext hE56).ints)
      have hE36 := hE5.trans' hE56
      have HE6 := hide (HE3.out.trans' hE36)
      have HBW6 := hide (HBW3.out.ext hE36)
      have hWL := HBW6.out.lt
      have b0 := HBW6.out.cell 0
      have b1 := HBW6.out.cell 1
      simp only [List.getElem?_toArray, List.getElem?_cons_zero, List.getElem?_cons_succ] at b0 b1
      have HW6 := hide hw6
      have HGA := hide hga
      have HLQ := hide (fun (w1 : World) (hE : Ext w6 w1) => HLq.out w1 (HE6.out.trans' hE) n64 m1000 (prs_ok HGD.out.found))
      have HPQ := hide (fun (w1 : World) (hE : Ext w6 w1) (A4 : Option Addr) (c4 : Nat) (hM : MatAt w1 w1.heap.size A4 (leads ws.length (prs ws os))) => HRf.out w1 (HE6.out.trans' hE) A4 c4 (leads ws.length (prs ws os)) hM (leads_sq _ _) (by rw [leads_length]; exact HN.out) rfl n64 (by omega))
      clear hw6 hga hE56 hE5 hE36 hNa HE3 HL3 HBW3 hH hf1 hf2 eF hz htwo HLq HRf
      go_upto_region 5 with fail
      rw [← HW6.out, ← HGA.out]
      have HX := hide ((Ext.rfl' w6).drew')
      have c0 := b0
      have c1 := b1
      go_cut [9, 10] (fun v p wx => ReadPost H f1 f2 w6 v p wx)
      case first =>
        go_region_held3 (fun w' => w'.cell? ⟨gw, 0, none⟩ = some (.slice A n c) ∧ w'.cell? ⟨gw, 1, none⟩ = some (.slice A2 m c2)) (first | go_keep | exact hS | exact ⟨((World.cell?_setCell_other _ _ _ _ (by intro e; injection e with e; omega)).trans (World.cell?_setCell_other _ _ _ _ (by intro e; injection e with e; omega))).trans hS.1, ((World.cell?_setCell_other _ _ _ _ (by intro e; injection e with e; omega)).trans (World.cell?_setCell_other _ _ _ _ (by intro e; injection e with e; omega))).trans hS.2⟩)
          ((first
            | (go_at_call 13
               refine (HLQ.out _ (by first | exact HX.out | exact Ext.trans' HX.out ((Ext.rfl' _).alloc (Nat.le_refl _) _))).mono ?_
               rintro e w1 ⟨A4, c4, rfl, hA, hE⟩
               first | have HB7 := hide (HB7.out.ext hE) | (have HB7 := hide (Blk.ext (Blk.new _ _ _) hE); have n7 := HX.out.size) | (have HB7 := hide (Blk.ext (Blk.drew' (Blk.new _ _ _)) hE); have n7 := HX.out.size) | skip
               have HX := hide (by first | exact Ext.trans' HX.out hE | exact Ext.trans' (Ext.trans' HX.out ((Ext.rfl' _).alloc (Nat.le_refl _) _)) hE : Ext w6 w1)
               have HMX := hide hA
               rw [← HN.out]
               have hS := And.intro ((HBW6.out.ext HX.out).cell 0) ((HBW6.out.ext HX.out).cell 1)
               simp only [List.getElem?_toArray, List.getElem?_cons_zero, List.getElem?_cons_succ] at hS
               clear hE hA)
            | (go_at_call 12
               refine (HPQ.out _ (by first | exact HX.out | exact Ext.trans' HX.out ((Ext.rfl' _).alloc (Nat.le_refl _) _)) _ _ (by first | exact HMX.out | exact HMX.out.below ((Ext.rfl' _).alloc (Nat.le_refl _) _) (by simp))).mono ?_
               rintro e w1 ⟨A5, c5, rfl, hP, hE⟩
               first | have HB7 := hide (HB7.out.ext hE) | (have HB7 := hide (Blk.ext (Blk.new _ _ _) hE); have n7 := HX.out.size) | (have HB7 := hide (Blk.ext (Blk.drew' (Blk.new _ _ _)) hE); have n7 := HX.out.size) | skip
               have HX := hide (by first | exact Ext.trans' HX.out hE | exact Ext.trans' (Ext.trans' HX.out ((Ext.rfl' _).alloc (Nat.le_refl _) _)) hE : Ext w6 w1)
               rw [← HHE.out] at hP
               rw [← HHE.out, HEF.out]
               have HPX := hide hP
               have hS := And.intro ((HBW6.out.ext HX.out).cell 0) ((HBW6.out.ext HX.out).cell 1)
               simp only [List.getElem?_toArray, List.getElem?_cons_zero, List.getElem?_cons_succ] at hS
               try (have b7 := HB7.out.cell 0; have b8 := HB7.out.cell 1; have f7 := HB7.out.free 0; have f8 := HB7.out.free 1; have l7 := HB7.out.lt; simp only [List.getElem?_toArray, List.getElem?_cons_zero, List.getElem?_cons_succ] at b7 b8; try simp only [World.size_drew] at b7 b8 f7 f8 l7)
               clear hE hP)))
        all_goals (go_wp2_with fail; go_meet)
        all_goals (first
          | exact ⟨_, _, _, rfl, rfl, (HB7.out.set_ 0 _).set_ 1 _, nat_two HB7.out HPX.out HTWO.out, (HX.out.setCell n7 _).setCell n7 _⟩
          | exact ⟨_, _, _, rfl, rfl, Blk.new _ _ _, HPX.out.ext ((Ext.rfl' _).alloc (Nat.le_refl _) _), HX.out.alloc (by have := HX.out.size; omega) _⟩)
      case rest =>
        obtain ⟨A6, c6, gb, rfl, rfl, hBB, hN6, hEc⟩ := hcut
        rw [← HZ.out]
        have HBB := hide hBB
        have HNb := hide hN6.ints
        have HBA1 := hide (HBA.out.ext hEc)
        have HNa1 := hide (HNa.out.ext hEc)
        have HEc := hide (HE6.out.trans' hEc)
        clear hBB hN6 hEc HX c0 c1 b0 b1 HBA HNa HE6 HBW6 HLQ HPQ
        go_wp2_with fail
        refine (labParse_nil s wc).mono ?_
        rintro e w9 ⟨rfl, hE9⟩
        rw [show fltV (1, 0) = .agg #[.int .i64 1, .int .i64 0] from rfl]
        obtain ⟨w10, hw10⟩ : ∃ w10, w10 = w9.alloc (.cells #[.int .i64 1, .int .i64 0] 31) := ⟨_, rfl⟩
        obtain ⟨gc, hgc⟩ : ∃ g, g = w9.heap.size := ⟨_, rfl⟩
        have hE810 : Ext wc w10 := by rw [hw10]; exact hE9.alloc hE9.size _
        have HBC := hide (show Blk w10 gc 31 #[.int .i64 1, .int .i64 0] by rw [hw10, hgc]; exact Blk.new _ _ _)
        have HBA2 := hide (HBA1.out.ext hE810)
        have HBB2 := hide (HBB.out.ext hE810)
        have HNa2 := hide (HNa1.out.ext hE810)
        have HNb2 := hide (HNb.out.ext hE810)
        have HE10 := hide (HEc.out.trans' hE810)
        have HW10 := hide hw10
        have HGC := hide hgc
        clear hw10 hgc hE810 hE9 HBA1 HBB HNa1 HNb HEc
        go_upto_region 7 with fail
        rw [← HW10.out, ← HGC.out]
        go_wp2_with fail
        refine (same_any Aa ca z (H.map fun (a : Nat) => (a : Int)) A6 c6 z (H.map fun (a : Nat) => (a : Int)) w10 HNa2.out (by rw [List.length_map]; exact HZ.out) (by omega) HNb2.out (by rw [List.length_map]; exact HZ.out) (by omega)).mono ?_
        rintro e w11 ⟨rfl, hE11⟩
        rw [show decide ((H.map fun (a : Nat) => (a : Int)) = (H.map fun (a : Nat) => (a : Int))) = true from decide_eq_true rfl]
        have a0 := (HBA2.out.ext hE11).cell 0
        have a1 := (HBA2.out.ext hE11).cell 1
        have b0 := (HBB2.out.ext hE11).cell 0
        have b1 := (HBB2.out.ext hE11).cell 1
        have d0 := (HBC.out.ext hE11).cell 0
        have d1 := (HBC.out.ext hE11).cell 1
        simp only [List.getElem?_toArray, List.getElem?_cons_zero, List.getElem?_cons_succ] at a0 a1 b0 b1 d0 d1
        have HE11 := hide (HE10.out.trans' hE11)
        have hq := run_eqIn_flt
        clear hE11
        go_wp2_with fail
        refine (labLives_any w11).mono ?_
        rintro e w12 ⟨rfl, hE12⟩
        have HE12 := hide (HE11.out.trans' hE12)
        clear hE12
        go_wp2_with fail
        go_ret
        exact ⟨rfl, HE12.out⟩
end Go.Proofs.YtpjlhpaenmfieaaGreat
