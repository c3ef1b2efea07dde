/- The law LabelsSame, walked. -/
import Derived.Test.YtpjlhpaenmfieaaLabT
import Derived.Test.YtpjlhpaenmfieaaLabL
import Derived.Test.YtpjlhpaenmfieaaLabE
namespace Go.Proofs.Ytpjlhpaenmfieaa
open Go.RowKit

set_option maxRecDepth 100000 in
set_option maxHeartbeats 8000000 in
theorem labSame_any (A : Option Addr) (c n : Nat) (ws : List Wd) (A2 : Option Addr) (c2 m : Nat) (os : List (Wd × Wd)) (A3 : Option Addr) (c3 q : Nat) (us : List Wd) (ob : Int) (w : World) (h : WdsAt w w.heap.size A ws) (hsz : ∀ i, (wNm ws i).size ≤ maxLen) (hn : n = ws.length) (h2 : OdsAt w w.heap.size A2 os) (hm : m = os.length) (h3 : WdsAt w w.heap.size A3 us) (hq3 : q = us.length) (hq' : q ≤ 9223372036854775807) :
    Calls Try.prog 9 #[.agg #[.slice A n c, .slice A2 m c2], .slice A3 q c3, .int .i64 ob] w (BoolPost true w) := by
  obtain ⟨w0, hw0⟩ : ∃ w0, w0 = w.alloc (.cells #[.slice A n c, .slice A2 m c2] 73) := ⟨_, rfl⟩
  obtain ⟨gw, hgw⟩ : ∃ g, g = w.heap.size := ⟨_, rfl⟩
  have hB : Blk w0 gw 73 #[.slice A n c, .slice A2 m c2] := by rw [hw0, hgw]; exact Blk.new _ _ _
  have hE0 : Ext w w0 := by rw [hw0]; exact (Ext.rfl' w).alloc (Nat.le_refl _) _
  have HBd := hide (build_any A c n ws A2 c2 m os w0 (h.ext hE0) hsz hn (h2.ext hE0) hm)
  have HU := hide h3
  have HQ3 := hide hq3
  have HW0 := hide hw0
  have HGW := hide hgw
  have HE0 := hide hE0
  have w00 := hB.cell 0
  have w01 := hB.cell 1
  simp only [List.getElem?_toArray, List.getElem?_cons_zero, List.getElem?_cons_succ] at w00 w01
  clear h h2 h3 hn hm hq3 hsz hB hw0 hgw hE0
  go_enter Try.func9, Try.ntmps9
  go_upto_region 1 with fail
  rw [← HW0.out, ← HGW.out]
  go_wp2_with fail
  refine HBd.out.mono ?_
  rintro e w2 (⟨hw, rfl, hE⟩ | ⟨hw, g, rfl, hL, hE⟩)
  · obtain ⟨f1, hf1⟩ : ∃ f1, f1 = (wrongL ws os).1 := ⟨_, rfl⟩
    obtain ⟨f2, hf2⟩ : ∃ f2, f2 = (wrongL ws os).2 := ⟨_, rfl⟩
    have e : fltV (wrongL ws os) = .agg #[.int .i64 f1, .int .i64 f2] := by rw [hf1, hf2]; rfl
    rw [e]
    rw [← hf1] at hw
    have h0 : (f1 != 0) = true := by simpa using hw
    have h0' : ¬ f1 = 0 := hw
    obtain ⟨w3, hw3⟩ : ∃ w3, w3 = w2.alloc (.cells #[.int .i64 f1, .int .i64 f2] 29) := ⟨_, rfl⟩
    have hE3 : Ext w w3 := by rw [hw3]; exact (HE0.out.trans' hE).alloc ((HE0.out.trans' hE).size) _
    obtain ⟨gf, hgf⟩ : ∃ g, g = w2.heap.size := ⟨_, rfl⟩
    have hB : Blk w3 gf 29 #[.int .i64 f1, .int .i64 f2] := by rw [hw3, hgf]; exact Blk.new _ _ _
    have b0 := hB.cell 0
    have b1 := hB.cell 1
    simp only [List.getElem?_toArray, List.getElem?_cons_zero, List.getElem?_cons_succ] at b0 b1
    have HW3 := hide hw3
    have HGF := hide hgf
    have HE3 := hide hE3
    clear hf1 hf2 hw hw3 hE hgf e hB hE3 HBd HW0 HGW
    go_upto_region 2 with fail
    rw [← HW3.out, ← HGF.out]
    go_wp2_with fail
    refine (labLives_any _).mono ?_
    rintro e w4 ⟨rfl, hE4⟩
    go_wp2_with fail
    go_ret
    exact ⟨rfl, HE3.out.trans' hE4⟩
  · rw [show fltV (0, 0) = .agg #[.int .i64 0, .int .i64 0] from rfl]
    have gd := good_of (show (wrongL ws os).1 = 0 by rw [hw])
    have HGD := hide gd
    obtain ⟨w3, hw3⟩ : ∃ w3, w3 = w2.alloc (.cells #[.int .i64 0, .int .i64 0] 29) := ⟨_, rfl⟩
    have hE23 : Ext w2 w3 := by rw [hw3]; exact (Ext.rfl' w2).alloc (Nat.le_refl _) _
    obtain ⟨gf, hgf⟩ : ∃ g, g = w2.heap.size := ⟨_, rfl⟩
    have hB : Blk w3 gf 29 #[.int .i64 0, .int .i64 0] := by rw [hw3, hgf]; exact Blk.new _ _ _
    have b0 := hB.cell 0
    have b1 := hB.cell 1
    simp only [List.getElem?_toArray, List.getElem?_cons_zero, List.getElem?_cons_succ] at b0 b1
    have HE3 := hide ((HE0.out.trans' hE).trans' hE23)
    have HL3 := hide (hL.ext hE23)
    have HW3 := hide hw3
    have HGF := hide hgf
    clear hw gd hw3 hE23 hE hL hgf hB HBd HW0 HGW HE0
    go_upto_region 2 with fail
    rw [← HW3.out, ← HGF.out]
    by_cases hq1 : (100 : Int) < (q : Int)
    · go_wp2_with fail
      refine (labLives_any w3).mono ?_
      rintro e w4 ⟨rfl, hE4⟩
      go_wp2_with fail
      go_ret
      exact ⟨rfl, HE3.out.trans' hE4⟩
    · have HU3 := hide (HU.out.ext HE3.out)
      have HFnd := hide (fun (w1 : World) (hE : Ext w3 w1) (s : ByteArray) => latFind_any g ws os w1 (HL3.out.ext hE) (by have := HGD.out.few; omega) s)
      have HLeq := hide (fun (w1 : World) (hE : Ext w3 w1) (a : Int) => latLeq_any g ws os w1 (HL3.out.ext hE) (prs_ok HGD.out.found) a ob)
      go_wp2_with fail
      go_loopw [11, 9, 10] (fun i x ea wr => ∃ (k r : Nat) (Ao : Option Addr) (co : Nat) (E : Bool), k ≤ q ∧ i = .int .i64 (k : Int) ∧ x = .slice Ao r co ∧ ea = .bool E ∧ r ≤ k ∧ wr.ownsRow w3.heap.size 3 1 (.slice Ao r co) r (natCells (fndTo ws us k)) ∧ Ext w3 wr ∧ Hid (r = (fndTo ws us k).length) ∧ Hid (E = eachTo ws os us ob k)) (fun i _ _ _ => q - (intOf i).toNat)
      case atStart => exact ⟨0, 0, none, 0, true, Nat.zero_le _, rfl, rfl, rfl, Nat.le_refl _, World.ownsRow_nil _ _ _ _, Ext.rfl' w3, rfl, rfl⟩
      case round =>
        obtain ⟨k, r, Ao, co, E, hk, rfl, rfl, rfl, hrk, hO, hEr, HR, HEA⟩ := hrel
        have HO := hide hO
        have HEr := hide hEr
        by_cases hlt : k < q
        · have hkl : k < us.length := by rw [← HQ3.out]; exact hlt
          obtain ⟨b, o, rfl, hbs, hcell⟩ := HU3.out.cell (by omega)
          have q1 := (hEr.cell (p := ⟨b, o + k * 2, none⟩) hbs).trans (hcell k hkl).1
          have hcase := findL_case (nms ws) (wNm us k)
          have hy := fun t (h : findL (nms ws) (wNm us k) = ((t : Nat) : Int)) => And.intro (fndTo_yes h) (eachTo_yes (os := os) (ob := ob) h)
          have hno := fun (h : findL (nms ws) (wNm us k) = -1) => And.intro (fndTo_no h) (eachTo_no (os := os) (ob := ob) h)
          have hf := HFnd.out wr hEr (wNm us k)
          obtain ⟨s, hs⟩ : ∃ s, s = wNm us k := ⟨_, rfl⟩
          rw [← hs] at q1 hcase hy hno hf
          have HY := hide hy
          have HNO := hide hno
          have i0 : (0 : Int) ≤ (k : Int) := by omega
          have i1 : (k : Int) < (q : Int) := by omega
          have hsz := hEr.size
          clear hcell hs hy hno hO hEr
          rcases hcase with ⟨e1, e2⟩ | ⟨t, ht, e1, e2⟩
          · rw [e2] at hf
            have HF := hide hf
            obtain ⟨g1, g2⟩ := HNO.out e1
            have hO2 := HO.out
            rw [← g1] at hO2 HR
            have HO2 := hide hO2
            have HEA2 := hide g2.symm
            clear hf e1 e2 g1 g2 hO2 HY HNO HEA
            cases E
            all_goals
              go_wp2_with fail
              refine HF.out.mono ?_
              rintro e w4 ⟨rfl, hE4⟩
              have HE4 := hide (HEr.out.trans' hE4)
              have HO4 := hide (own_ext HO2.out hE4)
              clear hE4
              go_wp2_with fail
              go_roundw
              case rel => exact ⟨k + 1, r, Ao, co, false, by omega, by go_num, rfl, rfl, by omega, HO4.out, HE4.out, HR, HEA2⟩
              case measure => simp [intOf]; omega
          · rw [e2] at hf
            have HF := hide hf
            obtain ⟨g1, g2⟩ := HY.out t e1
            have HG1 := hide g1
            rw [← HEA.out] at g2
            obtain ⟨l, hl⟩ : ∃ l, l = leqI ws os (t : Int) ob := ⟨_, rfl⟩
            rw [← hl] at g2
            have HG2 := hide g2
            have HL := hide hl
            clear hf e1 e2 g1 g2 HY HNO HEA hl
            cases E with
            | false =>
              go_wp2_with fail
              refine HF.out.mono ?_
              rintro e w4 ⟨rfl, hE4⟩
              have HE4 := hide (HEr.out.trans' hE4)
              have HO4 := hide (own_ext HO.out hE4)
              have hsz4 := HE4.out.size
              clear hE4
              go_wp2_with (at_builtin; refine wpList_append_Nat _ rfl _ _ rfl w3.heap.size _ r (fndTo ws us k) rfl w4.heap.size t _ rfl (HO4.out.alloc _) (reads_new _ _ _) (by omega) (by simp; omega) ?_)
              intro A5 c5 w5 hown5 hgrow5 _
              have HE5 := hide (grown_ext' (w := w3) (wr := w4) (base := w3.heap.size) HE4.out ((Ext.rfl' w4).alloc (Nat.le_refl _) _) hgrow5 HO4.out (Nat.le_refl _))
              rw [← HG1.out] at hown5
              have HO5 := hide hown5
              clear hown5 hgrow5
              go_wp2_with fail
              go_roundw
              case rel => exact ⟨k + 1, r + 1, A5, c5, false, by omega, by go_num, rfl, rfl, by omega, HO5.out, HE5.out, by rw [HG1.out, List.length_append, ← HR.out]; rfl, by rw [HG2.out]; rfl⟩
              case measure => simp [intOf]; omega
            | true =>
              go_wp2_with fail
              refine HF.out.mono ?_
              rintro e w4 ⟨rfl, hE4⟩
              have HE4 := hide (HEr.out.trans' hE4)
              have HO4 := hide (own_ext HO.out hE4)
              have hsz4 := HE4.out.size
              have hq4 := HLeq.out w4 HE4.out (t : Int)
              rw [← HL.out] at hq4
              have HQ4 := hide hq4
              clear hE4 hq4
              go_wp2_with fail
              refine HQ4.out.mono ?_
              rintro e w' ⟨rfl, rfl⟩
              go_wp2_with (at_builtin; refine wpList_append_Nat _ rfl _ _ rfl w3.heap.size _ r (fndTo ws us k) rfl w4.heap.size t _ rfl (HO4.out.alloc _) (reads_new _ _ _) (by omega) (by simp; omega) ?_)
              intro A5 c5 w5 hown5 hgrow5 _
              have HE5 := hide (grown_ext' (w := w3) (wr := w4) (base := w3.heap.size) HE4.out ((Ext.rfl' w4).alloc (Nat.le_refl _) _) hgrow5 HO4.out (Nat.le_refl _))
              rw [← HG1.out] at hown5
              have HO5 := hide hown5
              clear hown5 hgrow5
              go_wp2_with fail
              go_roundw
              case rel => exact ⟨k + 1, r + 1, A5, c5, l, by omega, by go_num, rfl, rfl, by omega, HO5.out, HE5.out, by rw [HG1.out, List.length_append, ← HR.out]; rfl, by rw [HG2.out]; rfl⟩
              case measure => simp [intOf]; omega
        · obtain rfl : k = q := by omega
          have hsz := hEr.size
          have lat := HGD.out.lat
          obtain ⟨X, hX⟩ : ∃ X, X = fndTo ws us k := ⟨_, rfl⟩
          have HXlt := hide (show ∀ x ∈ X, x < ws.length by rw [hX]; exact fndTo_lt)
          have hOX := HO.out
          rw [← hX] at hOX HR
          have HNX := hide (show NatAt wr wr.heap.size Ao X by unfold NatAt; rw [← HR.out]; exact Reads.of_own hOX)
          have hEach : E = eachTo ws os us ob us.length := by rw [HEA.out, HQ3.out]
          have HEach := hide hEach
          have HLr := hide (HL3.out.ext hEr)
          have HUr := hide (HU3.out.ext hEr)
          have HEE := hide (HE3.out.trans' hEr)
          have hrb : r ≤ 100 := by omega
          have hhi := labHighO_any g ws os Ao co r (X.map fun (a : Nat) => (a : Int)) wr HLr.out HGD.out HNX.out.ints (by rw [List.length_map]; exact HR.out) (by omega)
          rw [lvl_nat HXlt.out] at hhi
          obtain ⟨H, hH⟩ : ∃ H, H = LatM.highTo (leqL ws os) X ws.length := ⟨_, rfl⟩
          rw [← hH] at hhi
          have HHI := hide hhi
          have HHlt := hide (show ∀ x ∈ H, x < ws.length by rw [hH]; exact fun x hx => (LatM.highTo_lt hx).1)
          have HHlen := hide (show H.length ≤ 32 by rw [hH]; have := LatM.highTo_le (leqL ws os) X ws.length; have := HGD.out.few; omega)
          have HHJ := hide (show LatM.allJoin ws.length (leqL ws os) H = LatM.allJoin ws.length (leqL ws os) X by rw [hH]; exact LatM.high_join lat HXlt.out)
          have HHH := hide (show LatM.highTo (leqL ws os) H ws.length = H by rw [hH]; exact LatM.high_high X)
          have HHN := hide (fun (h0 : X ≠ []) => (by rw [hH]; exact LatM.high_some lat.po HXlt.out h0 : H ≠ []))
          have HHE := hide hH
          clear hX hOX hEach hhi hH hO hEr lat
          go_wp2_with fail
          refine HHI.out.mono ?_
          rintro e w5 ⟨A5, c5, rfl, hO5, hE5⟩
          obtain ⟨z, hz⟩ : ∃ z, z = H.length := ⟨_, rfl⟩
          rw [← hz] at hO5 ⊢
          have HZ := hide hz
          have hz32 : z ≤ 32 := by rw [hz]; exact HHlen.out
          have HO5 := hide hO5
          have HE5 := hide (HEE.out.trans' hE5)
          have HL5 := hide (HLr.out.ext hE5)
          have HU5 := hide (HUr.out.ext hE5)
          have HX5 := hide (HNX.out.ext hE5)
          have HEW5 := hide hE5
          have HH5 := hide (show NatAt w5 w5.heap.size A5 H by unfold NatAt; rw [← hz]; exact Reads.of_own hO5)
          have hnm := latName_any g ws os w5 HL5.out ob
          have hse := labSees_any g ws os A3 c3 k us ob w5 HL5.out HGD.out.few HGD.out.lat (prs_ok HGD.out.found) HU5.out HQ3.out hq'
          have HLR := hide HLr.out
          have HXR := hide HNX.out
          have HEER := hide HEE.out
          clear hz hO5 hE5 HHI HLr HUr HNX HEE
          go_upto_region 14 with fail
          go_cut [103] (fun v wx => v = .bool false ∧ Ext wr wx ∧ NatAt wx wx.heap.size A5 H)
          case first =>
            have hnz : nmI ws ob = nmI ws ob := rfl
            have HU1 := hide (fun (w6 : World) (hE6 : Ext w5 w6) => (by
              have := labUnder_any g ws os Ao co r (X.map fun (a : Nat) => (a : Int)) A5 c5 z (H.map fun (a : Nat) => (a : Int)) w6 (HL5.out.ext hE6) HGD.out (HX5.out.ext hE6).ints (by rw [List.length_map]; exact HR.out) (by omega) (HH5.out.ext hE6).ints (by rw [List.length_map]; exact HZ.out) (by omega)
              rw [lvl_nat HXlt.out, lvl_nat HHlt.out, HHJ.out, HGD.out.lat.po.refl _ (LatM.allJoin_lt HGD.out.lat HXlt.out)] at this
              exact this : Calls Try.prog 40 #[.pointer (some ⟨g, 0, none⟩), .slice Ao r co, .slice A5 z c5] w6 (fun e w' => e = .returned (.bool true) ∧ w6 = w')))
            have HU2 := hide (fun (w6 : World) (hE6 : Ext w5 w6) => (by
              have := labUnder_any g ws os A5 c5 z (H.map fun (a : Nat) => (a : Int)) Ao co r (X.map fun (a : Nat) => (a : Int)) w6 (HL5.out.ext hE6) HGD.out (HH5.out.ext hE6).ints (by rw [List.length_map]; exact HZ.out) (by omega) (HX5.out.ext hE6).ints (by rw [List.length_map]; exact HR.out) (by omega)
              rw [lvl_nat HXlt.out, lvl_nat HHlt.out, HHJ.out, HGD.out.lat.po.refl _ (LatM.allJoin_lt HGD.out.lat HXlt.out)] at this
              exact this : Calls Try.prog 40 #[.pointer (some ⟨g, 0, none⟩), .slice A5 z c5, .slice Ao r co] w6 (fun e w' => e = .returned (.bool true) ∧ w6 = w')))
            have HU3' := hide (fun (w6 : World) (hE6 : Ext wr w6) (A7 : Option Addr) (c7 : Nat) (h7 : IntAt w6 w6.heap.size A7 ((H.map fun (a : Nat) => (a : Int)) ++ [ob])) => (by
              have := labUnder_any g ws os Ao co r (X.map fun (a : Nat) => (a : Int)) A7 c7 (z + 1) ((H.map fun (a : Nat) => (a : Int)) ++ [ob]) w6 (HLR.out.ext hE6) HGD.out (HXR.out.ext hE6).ints (by rw [List.length_map]; exact HR.out) (by omega) h7 (by rw [List.length_append, List.length_map, HZ.out]; rfl) (by omega)
              rw [lvl_nat HXlt.out, more_join HGD.out.lat HXlt.out HHlt.out HHJ.out ob] at this
              exact this : Calls Try.prog 40 #[.pointer (some ⟨g, 0, none⟩), .slice Ao r co, .slice A7 (z + 1) c7] w6 (fun e w' => e = .returned (.bool true) ∧ w6 = w')))
            rcases hasI_cases ws.length ob with ⟨o, rfl, ho⟩ | ho
            · have e0 : nmI ws (o : Int) = wNm ws o := by unfold nmI; rw [hasI_nat ho, if_pos rfl, Int.toNat_natCast]
              rw [e0] at hnm
              have hne := name_some (HGD.out.named o ho)
              rw [same_sees HGD.out.lat us ho, ← HEach.out] at hse
              obtain ⟨nm, hnme⟩ : ∃ nm, nm = wNm ws o := ⟨_, rfl⟩
              rw [← hnme] at hnm hne
              have HNM := hide hnm
              have HSE := hide hse
              have hee : (E != E) = false := by simp
              clear hnm hse hnme e0 hnz
              go_wp2_with fail
              refine HNM.out.mono ?_
              rintro e w' ⟨rfl, rfl⟩
              go_wp2_with fail
              refine HSE.out.mono ?_
              rintro e w6 ⟨rfl, hE6⟩
              have HE6 := hide hE6
              have HO6 := hide (own_ext HO5.out hE6)
              have HU1' := hide (HU1.out w6 hE6)
              have HU2' := hide (HU2.out w6 hE6)
              have hsz6 := hE6.size
              have hszR := HEW5.out.size
              clear hE6
              go_wp2_with fail
              refine HU1'.out.mono ?_
              rintro e w' ⟨rfl, rfl⟩
              go_wp2_with fail
              refine HU2'.out.mono ?_
              rintro e w' ⟨rfl, rfl⟩
              go_wp2_with (at_builtin; refine wpList_unguard (by rfl) ?_; refine wpList_append_high _ rfl _ _ rfl wr.heap.size A5 z c5 H rfl (HO6.out.alloc _) w6.heap.size (o : Int) _ rfl (by simp) (by omega) HZ.out ?_)
              intro A7 c7 w7 hI7 hN7 hX7
              have hE7 : Ext wr w7 := hX7 wr (Nat.le_refl _) ((HEW5.out.trans' HE6.out).alloc (by omega) _)
              have HU7 := hide (HU3'.out w7 hE7 A7 c7 hI7)
              have HE7 := hide hE7
              have HN7 := hide hN7
              clear hI7 hN7 hX7 hE7
              go_wp2_with fail
              refine HU7.out.mono ?_
              rintro e w' ⟨rfl, rfl⟩
              go_wp2_with fail
              go_meet
              exact ⟨rfl, HE7.out, HN7.out⟩
            · have e0 : nmI ws ob = ⟨#[]⟩ := by unfold nmI; rw [hasI_out ho]; rfl
              rw [e0] at hnm
              have HNM := hide hnm
              have hE6 : Ext w5 w5 := Ext.rfl' _
              obtain ⟨w6, hw6⟩ : ∃ w6, w6 = w5 := ⟨_, rfl⟩
              rw [← hw6] at hE6
              clear hnm hse e0 hnz ho
              go_wp2_with fail
              refine HNM.out.mono ?_
              rintro e w' ⟨rfl, rfl⟩
              subst hw6
              have HE6 := hide hE6
              have HO6 := hide (own_ext HO5.out hE6)
              have HU1' := hide (HU1.out w6 hE6)
              have HU2' := hide (HU2.out w6 hE6)
              have hsz6 := hE6.size
              have hszR := HEW5.out.size
              clear hE6
              go_wp2_with fail
              refine HU1'.out.mono ?_
              rintro e w' ⟨rfl, rfl⟩
              go_wp2_with fail
              refine HU2'.out.mono ?_
              rintro e w' ⟨rfl, rfl⟩
              go_wp2_with (at_builtin; refine wpList_unguard (by rfl) ?_; refine wpList_append_high _ rfl _ _ rfl wr.heap.size A5 z c5 H rfl (HO6.out.alloc _) w6.heap.size ob _ rfl (by simp) (by omega) HZ.out ?_)
              intro A7 c7 w7 hI7 hN7 hX7
              have hE7 : Ext wr w7 := hX7 wr (Nat.le_refl _) ((HEW5.out.trans' HE6.out).alloc (by omega) _)
              have HU7 := hide (HU3'.out w7 hE7 A7 c7 hI7)
              have HE7 := hide hE7
              have HN7 := hide hN7
              clear hI7 hN7 hX7 hE7
              go_wp2_with fail
              refine HU7.out.mono ?_
              rintro e w' ⟨rfl, rfl⟩
              go_wp2_with fail
              go_meet
              exact ⟨rfl, HE7.out, HN7.out⟩
          case rest =>
            obtain ⟨rfl, hEc, hNc⟩ := hcut
            have HNc := hide hNc
            have HEc := hide (HEER.out.trans' hEc)
            have HLc := hide (HLR.out.ext hEc)
            have HXc := hide (HXR.out.ext hEc)
            have htx := labText_any g ws os Ao co r (X.map fun (a : Nat) => (a : Int)) wc HLc.out HGD.out HXc.out.ints (by rw [List.length_map]; exact HR.out) (by omega)
            rw [lvl_nat HXlt.out, ← HHE.out] at htx
            have HTX := hide htx
            obtain ⟨hs1, hs2⟩ := textS_len HGD.out HHlt.out
            have hsz' : (textS ws H).size ≤ 1000000 := by have := HHlen.out; omega
            have hpt := fun (h0 : X ≠ []) => parse_text HGD.out (HHN.out h0) HHlt.out hs2
            have HPA := hide (fun (w6 : World) (hE6 : Ext wc w6) => labParse_any g ws os (textS ws H) w6 (HLc.out.ext hE6) HGD.out hsz')
            obtain ⟨T, hT⟩ : ∃ T, T = textS ws H := ⟨_, rfl⟩
            rw [← hT] at HTX HPA hpt
            have HPT := hide hpt
            clear htx hpt hT hs1 hs2 hsz' hEc hNc hnm hse HU5 HL5 HX5 HO5 HH5 HE5 HEW5
            go_wp2_with fail
            refine HTX.out.mono ?_
            rintro e w6 ⟨rfl, hE6⟩
            go_wp2_with fail
            refine (HPA.out w6 hE6).mono ?_
            rintro e w7 ⟨A7, c7, rfl, hN7, hE7⟩
            obtain ⟨f1, hf1⟩ : ∃ f, f = (parseL ws T).2.1 := ⟨_, rfl⟩
            obtain ⟨f2, hf2⟩ : ∃ f, f = (parseL ws T).2.2 := ⟨_, rfl⟩
            have eF : fltV (parseL ws T).2 = .agg #[.int .i64 f1, .int .i64 f2] := by rw [hf1, hf2]; rfl
            rw [eF]
            obtain ⟨w8, hw8⟩ : ∃ w8, w8 = w7.alloc (.cells #[.int .i64 f1, .int .i64 f2] 29) := ⟨_, rfl⟩
            obtain ⟨gb, hgb⟩ : ∃ g, g = w7.heap.size := ⟨_, rfl⟩
            have hE78 : Ext w7 w8 := by rw [hw8]; exact (Ext.rfl' w7).alloc (Nat.le_refl _) _
            have hB8 : Blk w8 gb 29 #[.int .i64 f1, .int .i64 f2] := by rw [hw8, hgb]; exact Blk.new _ _ _
            have b0 := hB8.cell 0
            have b1 := hB8.cell 1
            simp only [List.getElem?_toArray, List.getElem?_cons_zero, List.getElem?_cons_succ] at b0 b1
            have HN8 := hide (hN7.ext hE78)
            have HNH8 := hide (HNc.out.ext ((hE6.trans' hE7).trans' hE78))
            have HE8 := hide (HEc.out.trans' ((hE6.trans' hE7).trans' hE78))
            have HW8 := hide hw8
            have HGB := hide hgb
            have HF1 := hide hf1
            have HF2 := hide hf2
            have hq := run_eqIn_flt
            clear hw8 hgb hE78 hE7 hE6 hN7 hB8 hf1 hf2 eF HTX HPA HNc HEc HLc HXc
            go_upto_region 17 with fail
            rw [← HW8.out, ← HGB.out]
            by_cases hX0 : X = []
            · have hr0 : r = 0 := by rw [HR.out, hX0]; rfl
              clear hX0
              subst hr0
              go_wp2_with fail
              refine (labLives_any w8).mono ?_
              rintro e w9 ⟨rfl, hE9⟩
              go_wp2_with fail
              go_ret
              exact ⟨rfl, HE8.out.trans' hE9⟩
            · have hp := HPT.out hX0
              have e1 : f1 = 0 := by rw [HF1.out, hp]
              have e2 : f2 = 0 := by rw [HF2.out, hp]
              have hN9 := HN8.out
              rw [hp, HHH.out] at hN9
              have hr0 : ((r : Int) == 0) = false := by
                rw [beq_eq_false_iff_ne]
                intro h
                have h' : r = 0 := by omega
                rw [HR.out] at h'
                exact hX0 (List.length_eq_zero_iff.1 h')
              subst e1
              subst e2
              rw [show (LatM.highTo (leqL ws os) (parseL ws T).1 ws.length).length = z by rw [hp, HHH.out, HZ.out]]
              have HN9 := hide hN9
              clear hN9 hX0 hp HN8
              go_wp2_with fail
              refine (same_any A7 c7 z (H.map fun (a : Nat) => (a : Int)) A5 c5 z (H.map fun (a : Nat) => (a : Int)) w8 HN9.out.ints (by rw [List.length_map]; exact HZ.out) (by omega) HNH8.out.ints (by rw [List.length_map]; exact HZ.out) (by omega)).mono ?_
              rintro e w9 ⟨rfl, hE9⟩
              rw [show decide ((H.map fun (a : Nat) => (a : Int)) = (H.map fun (a : Nat) => (a : Int))) = true from decide_eq_true rfl]
              have HE9 := hide (HE8.out.trans' hE9)
              clear hE9 b0 b1 hq
              go_wp2_with fail
              refine (labLives_any w9).mono ?_
              rintro e w10 ⟨rfl, hE10⟩
              go_wp2_with fail
              go_ret
              exact ⟨rfl, HE9.out.trans' hE10⟩
end Go.Proofs.Ytpjlhpaenmfieaa
