/- The document's functions of layer 12: over, Least, Of. -/
import Derived.Test.YtpjlhpaenmfieaaGreatLabAll
import Derived.Test.YtpjlhpaenmfieaaGreatLatT
import Derived.Test.YtpjlhpaenmfieaaGreatLatR
namespace Go.Proofs.YtpjlhpaenmfieaaGreat
open Go.RowKit

theorem all_take {l : List Nat} {p : Nat → Bool} {k : Nat} (hk : k < l.length) : (l.take (k + 1)).all p = ((l.take k).all p && p l[k]) := by
  rw [List.take_succ_eq_append_getElem hk, List.all_append]
  simp
theorem all_false {l : List Nat} {p : Nat → Bool} {k : Nat} (hk : k < l.length) (h : p l[k] = false) : l.all p = false := by
  rw [List.all_eq_false]
  exact ⟨l[k], List.getElem_mem hk, by rw [h]; decide⟩

set_option maxRecDepth 100000 in
set_option maxHeartbeats 1000000 in
theorem over_any (A : Option Addr) (cp n : Nat) (M : List (List Bool)) (A2 : Option Addr) (c2 m : Nat) (l : List Nat) (v : Nat) (w : World) (h : MatAt w w.heap.size A M) (hsq : ∀ r ∈ M, r.length = M.length) (hn : n = M.length) (hn0 : 0 < n) (hl : n ≤ 64) (hN : NatAt w w.heap.size A2 l) (hm : m = l.length) (hm' : m ≤ 9223372036854775807) (hlt : ∀ k ∈ l, k < n) (hv : v < n) :
    Calls Tryz.prog 47 #[.slice A n cp, .slice A2 m c2, .int .i64 (v : Int)] w (fun e w' => e = .returned (.bool (LatM.over (mat M) l v)) ∧ w = w') := by
  obtain ⟨b0, o0, rfl, _, hrow⟩ := h.form hsq (by omega)
  rw [← hn] at hrow
  have HROW := hide hrow
  have HM := hide hm
  have HNN := hide hN
  have HLT := hide hlt
  have i0 : (0 : Int) ≤ (v : Int) := by omega
  have i1 : (v : Int) < (n : Int) := by omega
  clear hrow h hsq hn hm hN hlt
  go_enter Tryz.func47, Tryz.ntmps47
  go_wp2_with fail
  go_loopw [7] (fun i wr => ∃ k : Nat, k ≤ m ∧ i = .int .i64 k ∧ w = wr ∧ Hid ((l.take k).all (fun a => mat M a v) = true)) (fun i _ => m - (intOf i).toNat)
  case atStart => exact ⟨0, Nat.zero_le _, rfl, rfl, rfl⟩
  case round =>
    obtain ⟨k, hk, rfl, rfl, HA⟩ := hrel
    by_cases hkm : k < m
    · have hkl : k < l.length := by rw [← HM.out]; exact hkm
      obtain ⟨b, o, rfl, _, hcell⟩ := HNN.out.cell (by omega)
      have q1 := hcell k hkl
      have hin := HLT.out _ (List.getElem_mem hkl)
      obtain ⟨bk, ok, ck, f1, _, g1⟩ := HROW.out l[k] hin
      have g1' := g1 v hv
      have hst := all_take (p := fun a => mat M a v) hkl
      have hno := fun h => all_false (p := fun a => mat M a v) hkl h
      obtain ⟨i, hi⟩ : ∃ i, i = l[k] := ⟨_, rfl⟩
      rw [← hi] at q1 hin f1 g1' hst hno
      obtain ⟨r, hr⟩ : ∃ r, r = mat M i v := ⟨_, rfl⟩
      rw [← hr] at g1' hst hno
      have HST := hide hst
      have HNO := hide hno
      have i2 : (0 : Int) ≤ (i : Int) := by omega
      have i3 : (i : Int) < (n : Int) := by omega
      clear hcell g1 hst hno hi hr
      cases r with
      | true =>
        have HA2 := hide (show (l.take (k + 1)).all (fun a => mat M a v) = true by rw [HST.out, HA.out]; rfl)
        clear HA HST HNO
        go_wp2_with fail
        go_roundw
        case rel => exact ⟨k + 1, by omega, by go_num, by trivial, HA2⟩
        case measure => simp [intOf]; omega
      | false =>
        have HX := hide (HNO.out rfl)
        clear HST HNO
        go_wp2_with fail
        go_ret
        exact ⟨ret_bool (by unfold LatM.over; rw [HX.out]), rfl⟩
    · obtain rfl : k = m := by omega
      have HX := hide (show LatM.over (mat M) l v = true by
        have := HA.out
        rw [List.take_of_length_le (by rw [← HM.out]; exact Nat.le_refl _)] at this
        exact this)
      clear HA
      go_wp2_with fail
      go_ret
      exact ⟨ret_bool HX.out.symm, rfl⟩

set_option maxRecDepth 100000 in
set_option maxHeartbeats 1000000 in
theorem least_any (A : Option Addr) (cp n : Nat) (M : List (List Bool)) (A2 : Option Addr) (c2 m : Nat) (l : List Nat) (w : World) (h : MatAt w w.heap.size A M) (hsq : ∀ r ∈ M, r.length = M.length) (hn : n = M.length) (hl : n ≤ 64) (hN : NatAt w w.heap.size A2 l) (hm : m = l.length) (hm' : m ≤ 9223372036854775807) (hlt : ∀ k ∈ l, k < n) :
    Calls Tryz.prog 17 #[.slice A n cp, .slice A2 m c2] w (fun e w' => e = .returned (.int .i64 (LatM.leastL n (mat M) l)) ∧ w = w') := by
  have HOV := hide (fun (v : Nat) (hv : v < n) => over_any A cp n M A2 c2 m l v w h hsq hn (by omega) hl hN hm hm' hlt hv)
  have HROW := hide (fun (h0 : 0 < n) => (by have := h.form hsq (by omega); rw [← hn] at this; exact this : ∃ b o, A = some ⟨b, o, none⟩ ∧ b < w.heap.size ∧ ∀ k, k < n → ∃ bk ok ck, w.cell? ⟨b, o + k, none⟩ = some (.slice (some ⟨bk, ok, none⟩) n ck) ∧ bk < w.heap.size ∧ ∀ j, j < n → w.cell? ⟨bk, ok + j, none⟩ = some (.bool (mat M k j))))
  obtain ⟨I, hI⟩ : ∃ I : Nat → Bool, I = LatM.over (mat M) l := ⟨_, rfl⟩
  rw [← hI] at HOV
  rw [show LatM.leastL n (mat M) l = LatM.bestL n I (mat M) by rw [hI]; rfl]
  obtain ⟨N, hN'⟩ : ∃ N, N = mat M := ⟨_, rfl⟩
  rw [← hN'] at HROW ⊢
  clear h hsq hn hN hm hm' hlt hI hN'
  go_enter Tryz.func17, Tryz.ntmps17
  go_wp2_with fail
  go_loopw [5] (fun i wr => ∃ c : Nat, c ≤ n ∧ i = .int .i64 c ∧ w = wr ∧ Hid (∀ j, j < c → LatM.isBest n I N j = false)) (fun i _ => n - (intOf i).toNat)
  case atStart => exact ⟨0, Nat.zero_le _, rfl, rfl, fun j hj => absurd hj (by omega)⟩
  case round =>
    obtain ⟨c, hc, rfl, rfl, HA⟩ := hrel
    by_cases hcn : c < n
    · have HO1 := hide (HOV.out c hcn)
      obtain ⟨b0, o0, rfl, _, hrow⟩ := HROW.out (by omega)
      obtain ⟨bc, oc, cc, fc, _, gc⟩ := hrow c hcn
      have GC := hide gc
      have i0 : (0 : Int) ≤ (c : Int) := by omega
      have i1 : (c : Int) < (n : Int) := by omega
      clear hrow gc
      go_wp2_with fail
      refine HO1.out.mono ?_
      rintro e w' ⟨rfl, rfl⟩
      go_wp2_with fail
      go_loopw [7, 6] (fun i v wr => ∃ (d : Nat) (u : Bool), d ≤ n ∧ i = .int .i64 d ∧ v = .bool u ∧ w = wr ∧ Hid (u = bestTo I N c d)) (fun i _ _ => n - (intOf i).toNat)
      case atStart => exact ⟨0, _, Nat.zero_le _, rfl, rfl, rfl, (bestTo_zero I N c).symm⟩
      case round =>
        obtain ⟨d, u, hd, rfl, rfl, rfl, HU⟩ := hrel
        by_cases hdn : d < n
        · have ho := HOV.out d hdn
          have zc := GC.out d hdn
          have i2 : (0 : Int) ≤ (d : Int) := by omega
          have i3 : (d : Int) < (n : Int) := by omega
          have hy := fun h => bestTo_yes (I := I) (M := N) (c := c) (k := d) h
          have hno := fun h1 h2 => bestTo_no (I := I) (M := N) (c := c) (k := d) h1 h2
          obtain ⟨x, hx⟩ : ∃ x, x = I d := ⟨_, rfl⟩
          obtain ⟨z, hz⟩ : ∃ x, x = N c d := ⟨_, rfl⟩
          rw [← hx] at ho hy hno
          rw [← hz] at zc hy hno
          have HO := hide ho
          have HY := hide hy
          have HNO := hide hno
          clear ho hy hno hx hz
          cases x with
          | false =>
            have HS := hide (HY.out (.inl rfl))
            clear HY HNO
            go_wp2_with fail
            refine HO.out.mono ?_
            rintro e w' ⟨rfl, rfl⟩
            go_wp2_with fail
            go_roundw
            case rel => exact ⟨d + 1, u, by omega, by go_num, rfl, by trivial, by rw [HS.out]; exact HU.out⟩
            case measure => simp [intOf]; omega
          | true =>
            cases z with
            | true =>
              have HS := hide (HY.out (.inr rfl))
              clear HY HNO
              go_wp2_with fail
              refine HO.out.mono ?_
              rintro e w' ⟨rfl, rfl⟩
              go_wp2_with fail
              go_roundw
              case rel => exact ⟨d + 1, u, by omega, by go_num, rfl, by trivial, by rw [HS.out]; exact HU.out⟩
              case measure => simp [intOf]; omega
            | false =>
              have HS := hide (HNO.out rfl rfl)
              clear HY HNO
              go_wp2_with fail
              refine HO.out.mono ?_
              rintro e w' ⟨rfl, rfl⟩
              go_wp2_with fail
              go_roundw
              case rel => exact ⟨d + 1, false, by omega, by go_num, rfl, by trivial, HS.out.symm⟩
              case measure => simp [intOf]; omega
        · obtain rfl : d = n := by omega
          cases u with
          | true =>
            have HJ := hide (LatM.bestL_first hcn (show LatM.isBest d I N c = true from HU.out.symm) HA.out)
            go_wp2_with fail
            go_ret
            exact ⟨ret_int HJ.out.symm, rfl⟩
          | false =>
            have HB := hide (below_step HA.out (show LatM.isBest d I N c = false from HU.out.symm))
            clear HA
            go_wp2_with fail
            go_roundw
            case rel => exact ⟨c + 1, by omega, by go_num, by trivial, HB⟩
            case measure => simp [intOf]; omega
    · obtain rfl : c = n := by omega
      have HM := hide (LatM.bestL_miss HA.out)
      go_wp2_with fail
      go_ret
      exact ⟨ret_int HM.out.symm, rfl⟩

set_option maxRecDepth 100000 in
set_option maxHeartbeats 2000000 in
theorem refOf_any (A : Option Addr) (c n : Nat) (ws : List Wd) (os : List (Wd × Wd)) (A2 : Option Addr) (c2 : Nat) (M : List (List Bool)) (A3 : Option Addr) (c3 m : Nat) (us : List Wd) (w : World) (h : WdsAt w w.heap.size A ws) (hn : n = ws.length) (hl : n ≤ 64) (hM : MatAt w w.heap.size A2 M) (hsq : ∀ r ∈ M, r.length = M.length) (hMl : n = M.length) (hmat : mat M = leqL ws os) (hlat : LatM.Lat ws.length (leqL ws os)) (hu : WdsAt w w.heap.size A3 us) (hm : m = us.length) (hm' : m ≤ 1000000) :
    Calls Tryz.prog 22 #[.slice A n c, .slice A2 n c2, .slice A3 m c3] w (fun e w' => e = .returned (.tuple #[.int .i64 (ofI ws os us), fltV (ofF ws us)]) ∧ Ext w w') := by
  have HM := hide hm
  have HU := hide hu
  have HFnd := hide (fun (w1 : World) (hE : Ext w w1) (s : ByteArray) => wFind_any A c n ws s w1 (h.ext hE) hn (by omega))
  have HLst := hide (fun (w1 : World) (hE : Ext w w1) (A4 : Option Addr) (c4 q : Nat) (l : List Nat) (hN : NatAt w1 w1.heap.size A4 l) (hq : q = l.length) (hq' : q ≤ 9223372036854775807) (hlt : ∀ k ∈ l, k < n) => least_any A2 c2 n M A4 c4 q l w1 (hM.below hE hE.size) hsq hMl hl hN hq hq' hlt)
  have HMAT := hide hmat
  have HLAT := hide hlat
  have HN := hide hn
  clear h hn hl hM hsq hMl hmat hlat hu hm
  go_enter Tryz.func22, Tryz.ntmps22
  go_wp2_with fail
  go_loopw [9, 8] (fun i o wr => ∃ (k : Nat) (Ao : Option Addr) (co : Nat), k ≤ m ∧ i = .int .i64 k ∧ o = .slice Ao k co ∧ Ext w wr ∧ Blk wr w.heap.size 31 #[.int .i64 0, .int .i64 0] ∧ wr.ownsRow (w.heap.size + 1) 3 1 (.slice Ao k co) k (natCells (ofIdx ws us k)) ∧ Hid (∀ j, j < k → ofBad ws us j = none)) (fun i _ _ => m - (intOf i).toNat)
  case atStart => exact ⟨0, none, 0, Nat.zero_le _, rfl, rfl, (Ext.rfl' w).alloc (Nat.le_refl _) _, Blk.new _ _ _, World.ownsRow_nil _ _ _ _, fun j hj => absurd hj (by omega)⟩
  case round =>
    obtain ⟨k, Ao, co, hk, rfl, rfl, hE, hB, hO, HA⟩ := hrel
    have HE := hide hE
    have HB := hide hB
    have HO := hide hO
    by_cases hlt : k < m
    · have hkl : k < us.length := by rw [← HM.out]; exact hlt
      obtain ⟨b, o, rfl, hbs, hcell⟩ := HU.out.cell (by omega)
      obtain ⟨hp1, hp2⟩ := hcell k hkl
      have hcase := findL_case (nms ws) (wNm us k)
      have hbad : findL (nms ws) (wNm us k) = -1 → ofBad ws us k = some (17, wPl us k) := fun e => by unfold ofBad; rw [e, if_pos (by omega)]
      have hgood : ∀ q : Nat, findL (nms ws) (wNm us k) = q → ofBad ws us k = none ∧ ofIdx ws us (k + 1) = ofIdx ws us k ++ [q] := fun q e => ⟨by unfold ofBad; rw [e, if_neg (by omega)], by rw [ofIdx_succ, e]; rfl⟩
      have hf := HFnd.out wr hE (wNm us k)
      obtain ⟨x, hx⟩ : ∃ x, x = wNm us k := ⟨_, rfl⟩
      obtain ⟨p, hp⟩ : ∃ p, p = wPl us k := ⟨_, rfl⟩
      rw [← hx] at hp1 hcase hbad hgood hf
      rw [← hp] at hp2 hbad
      have q1 : wr.cell? ⟨b, o + k * 2, none⟩ = some (.string x) := (hE.cell (p := ⟨b, o + k * 2, none⟩) hbs).trans hp1
      have q2 : wr.cell? ⟨b, o + k * 2 + 1, none⟩ = some (.int .i64 p) := (hE.cell (p := ⟨b, o + k * 2 + 1, none⟩) hbs).trans hp2
      have i0 : (0 : Int) ≤ (k : Int) := by omega
      have i1 : (k : Int) < (m : Int) := by omega
      have HBAD := hide hbad
      have HGOOD := hide hgood
      have hsz := hB.lt
      clear hp1 hp2 hcell hx hp hbad hgood
      rcases hcase with ⟨e1, _⟩ | ⟨q, hq, e1, _⟩
      · rw [e1] at hf
        have HF := hide hf
        have HX := hide (firstOf_hit (n := m) hlt HA.out (HBAD.out e1))
        have b0 := hB.cell 0
        have b1 := hB.cell 1
        have f0 := hB.free 0
        have f1 := hB.free 1
        simp only [List.getElem?_toArray, List.getElem?_cons_zero, List.getElem?_cons_succ] at b0 b1
        clear hf e1 HGOOD HBAD hB hE hO
        go_wp2_with fail
        refine HF.out.mono ?_
        rintro e w' ⟨rfl, rfl⟩
        go_wp2_with fail
        go_region
        go_wp2_with fail
        exact val_flt_ret (f := (17, p)) (g := w.heap.size) (v := .int .i64 0) ((HB.out.set_ 0 _).set_ 1 _) rfl rfl rfl rfl ⟨by unfold ofI ofF; rw [← HM.out, HX.out], (ext_two HE.out _ _).drew'⟩
      · rw [e1] at hf
        have HF := hide hf
        obtain ⟨g1, g2⟩ := HGOOD.out q e1
        have HA2 := hide (below_step HA.out g1)
        have HG2 := hide g2
        have hq0 : ¬ (q : Int) < 0 := by omega
        clear hf e1 HGOOD HBAD g1 g2 hq hE hO hB HA
        go_wp2_with fail
        refine HF.out.mono ?_
        rintro e w' ⟨rfl, rfl⟩
        go_wp2_with (at_builtin; refine wpList_append_Nat _ rfl _ _ rfl (w.heap.size + 1) _ k (ofIdx ws us k) rfl wr.heap.size q _ rfl (HO.out.alloc _) (reads_new _ _ _) (by omega) (by simp; omega) ?_)
        intro A4 c4 w3 hown3 hgrow3 _
        have HE3 := hide (grown_ext' (w := w) (wr := wr) (base := w.heap.size + 1) HE.out ((Ext.rfl' wr).alloc (Nat.le_refl _) _) hgrow3 HO.out (by omega))
        have HB3 := hide (grown_blk (HB.out.alloc _) hgrow3 HO.out (.inl (by omega)))
        rw [← HG2.out] at hown3
        have HO3 := hide hown3
        clear hown3 hgrow3 q1 q2
        go_wp2_with fail
        go_roundw
        case rel => exact ⟨k + 1, A4, c4, by omega, by go_num, rfl, HE3.out, HB3.out, HO3.out, HA2⟩
        case measure => simp [intOf]; omega
    · obtain rfl : k = m := by omega
      have HX := hide (firstOf_miss.2 HA.out)
      have hil : (ofIdx ws us k).length = k := by simp [ofIdx]
      have hna : NatAt wr wr.heap.size Ao (ofIdx ws us k) := by
        unfold NatAt
        rw [hil]
        exact Reads.of_own HO.out
      have hll := HLst.out wr hE Ao co k (ofIdx ws us k) hna hil.symm (by omega) (by have := ofIdx_lt HA.out; intro x hx; have := this x hx; rw [HN.out]; exact this)
      rw [show LatM.leastL n (mat M) (ofIdx ws us k) = (LatM.allJoin ws.length (leqL ws os) (ofIdx ws us k) : Nat) by rw [HMAT.out, HN.out]; exact LatM.leastL_eq HLAT.out (ofIdx_lt HA.out)] at hll
      obtain ⟨t, ht⟩ : ∃ t, t = LatM.allJoin ws.length (leqL ws os) (ofIdx ws us k) := ⟨_, rfl⟩
      rw [← ht] at hll
      have HT := hide ht
      have HL := hide hll
      have b0 := hB.cell 0
      have b1 := hB.cell 1
      have f0 := hB.free 0
      have f1 := hB.free 1
      simp only [List.getElem?_toArray, List.getElem?_cons_zero, List.getElem?_cons_succ] at b0 b1
      clear hB hE HA hil hna hll ht hO
      go_wp2_with fail
      refine HL.out.mono ?_
      rintro e w' ⟨rfl, rfl⟩
      go_wp2_with fail
      exact val_flt_ret (f := (0, 0)) (g := w.heap.size) (v := .int .i64 t) ((HB.out.set_ 0 _).set_ 1 _) rfl rfl rfl rfl ⟨by unfold ofI ofF; rw [← HM.out, HX.out, HT.out], ext_two HE.out _ _⟩
end Go.Proofs.YtpjlhpaenmfieaaGreat
