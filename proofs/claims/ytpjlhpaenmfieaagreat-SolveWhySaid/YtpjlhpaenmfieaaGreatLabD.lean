/- labels: Text; the document's Same, walked. -/
import Derived.Test.YtpjlhpaenmfieaaGreatLabAll
import Derived.Test.YtpjlhpaenmfieaaGreatStrJ
namespace Go.Proofs.YtpjlhpaenmfieaaGreat
open Go.RowKit

set_option maxRecDepth 100000 in
set_option maxHeartbeats 1000000 in
theorem same_any (A : Option Addr) (c m : Nat) (x : List Int) (A2 : Option Addr) (c2 m2 : Nat) (y : List Int) (w : World) (hx : IntAt w w.heap.size A x) (hm : m = x.length) (hm' : m ≤ 9223372036854775807) (hy : IntAt w w.heap.size A2 y) (hm2 : m2 = y.length) (hm2' : m2 ≤ 9223372036854775807) :
    Calls Tryz.prog 14 #[.slice A m c, .slice A2 m2 c2] w (fun e w' => e = .returned (.bool (decide (x = y))) ∧ Ext w w') := by
  by_cases hl : m = m2
  · subst hl
    have HM := hide hm
    have HM2 := hide hm2
    have HX := hide hx
    have HY := hide hy
    have hbb : ((m : Int) != (m : Int)) = false := by simp
    clear hm hm2 hx hy
    go_enter Tryz.func14, Tryz.ntmps14
    go_wp2_with fail
    go_loopw [5] (fun i wr => ∃ k : Nat, k ≤ m ∧ i = .int .i64 k ∧ Ext w wr ∧ Hid (x.take k = y.take k)) (fun i _ => m - (intOf i).toNat)
    case atStart => exact ⟨0, Nat.zero_le _, rfl, Ext.rfl' _, rfl⟩
    case round =>
      obtain ⟨k, hk, rfl, hE, HA⟩ := hrel
      by_cases hlt : k < m
      · have hkx : k < x.length := by rw [← HM.out]; exact hlt
        have hky : k < y.length := by rw [← HM2.out]; exact hlt
        obtain ⟨b, o, rfl, hbs, hcell⟩ := HX.out.cell (by omega)
        obtain ⟨b2, o2, rfl, hbs2, hcell2⟩ := HY.out.cell (by omega)
        have q1 := (hE.cell (p := ⟨b, o + k, none⟩) hbs).trans (hcell k hkx)
        have q2 := (hE.cell (p := ⟨b2, o2 + k, none⟩) hbs2).trans (hcell2 k hky)
        have hst : x[k] = y[k] → x.take (k + 1) = y.take (k + 1) := fun e => by
          rw [List.take_succ_eq_append_getElem hkx, List.take_succ_eq_append_getElem hky, HA.out, e]
        have hne : x[k] ≠ y[k] → decide (x = y) = false := fun e => decide_eq_false fun h => by subst h; exact e rfl
        obtain ⟨u, hu⟩ : ∃ u, u = x[k] := ⟨_, rfl⟩
        obtain ⟨v, hv⟩ : ∃ u, u = y[k] := ⟨_, rfl⟩
        rw [← hu] at q1 hst hne
        rw [← hv] at q2 hst hne
        have HST := hide hst
        have HNE := hide hne
        have HE := hide hE
        have i0 : (0 : Int) ≤ (k : Int) := by omega
        have i1 : (k : Int) < (m : Int) := by omega
        clear hst hne hu hv hcell hcell2 hE
        by_cases he : u = v
        · subst he
          have huu : (u != u) = false := by simp
          have HA2 := hide (HST.out rfl)
          clear HA HST HNE
          go_wp2_with fail
          go_quiet (fail)
          go_wp2_with fail
          go_roundw
          case rel => exact ⟨k + 1, by omega, by go_num, below_drewN HE.out _, HA2⟩
          case measure => simp [intOf]; omega
        · have huv : (u != v) = true := by simpa using he
          have HN := hide (HNE.out he)
          clear HST HNE
          go_wp2_with fail
          go_quiet (fail)
          go_wp2_with fail
          go_ret
          exact ⟨ret_bool HN.out.symm, below_drewN HE.out _⟩
      · obtain rfl : k = m := by omega
        have HE := hide hE
        have HD := hide (show decide (x = y) = true by
          have := HA.out
          rw [List.take_of_length_le (by rw [← HM.out]; exact Nat.le_refl _), List.take_of_length_le (by rw [← HM2.out]; exact Nat.le_refl _)] at this
          exact decide_eq_true this)
        clear hE HA
        go_wp2_with fail
        go_ret
        exact ⟨ret_bool HD.out.symm, HE.out⟩
  · have hd : decide (x = y) = false := decide_eq_false fun h => by subst h; exact hl (hm.trans hm2.symm)
    have hbb : ((m : Int) != (m2 : Int)) = true := by simp; omega
    rw [hd]
    clear hx hy hm hm2 hd
    go_enter Tryz.func14, Tryz.ntmps14
    go_wp2_with fail
    go_ret
    exact ⟨rfl, Ext.rfl' _⟩

/-- The text of levels. -/
def textS (ws : List Wd) (l : List Nat) : ByteArray := joinS (l.map (wNm ws)) ⟨#[43]⟩
theorem lens_le {xs : List (List UInt8)} {b : Nat} (h : ∀ x ∈ xs, x.length ≤ b) : Lib.lens xs ≤ xs.length * b := by
  induction xs with
  | nil => simp [Lib.lens]
  | cons a l ih =>
    have h1 := ih fun x hx => h x (by simp [hx])
    have h2 := h a (by simp)
    simp only [Lib.lens, List.map_cons, List.sum_cons, List.length_cons] at h1 ⊢
    rw [Nat.add_mul]; omega
theorem name_short {ws : List Wd} {k : Nat} (h : nameBad ws k = none) : (wNm ws k).data.toList.length ≤ 32 := by
  unfold nameBad at h
  by_cases hr : rightB (wNm ws k) = false
  · rw [if_pos hr] at h; cases h
  · rw [Bool.not_eq_false] at hr
    unfold rightB at hr
    have := (of_decide_eq_true hr).2.2
    rw [Array.length_toList]; exact this
theorem textS_short {ws : List Wd} {os : List (Wd × Wd)} (gd : GoodL ws os) {l : List Nat} (hl : ∀ k ∈ l, k < ws.length) (hn : l.length ≤ 1000) : (Lib.join ((l.map (wNm ws)).map (·.data.toList)) ([43] : List UInt8)).length ≤ 140737488355328 := by
  cases l with
  | nil => simp [Lib.join, List.intercalate]
  | cons a l =>
    rw [List.map_cons, List.map_cons, Lib.join_length]
    have := lens_le (xs := ((a :: l).map (wNm ws)).map (·.data.toList)) (b := 32) (by
      intro x hx
      obtain ⟨y, hy, rfl⟩ := List.mem_map.1 hx
      obtain ⟨k, hk, rfl⟩ := List.mem_map.1 hy
      exact name_short (gd.named k (hl k hk)))
    simp only [List.map_cons, List.length_map, List.length_cons, List.length_nil] at this hn ⊢
    omega

set_option maxRecDepth 100000 in
set_option maxHeartbeats 1000000 in
theorem labText_any (g : Nat) (ws : List Wd) (os : List (Wd × Wd)) (A : Option Addr) (c m : Nat) (x : List Int) (w : World) (h : LatAt w g ws os) (gd : GoodL ws os) (hx : IntAt w w.heap.size A x) (hm : m = x.length) (hm' : m ≤ 9223372036854775807) :
    Calls Tryz.prog 19 #[.pointer (some ⟨g, 0, none⟩), .slice A m c] w (fun e w' => e = .returned (.string (textS ws (LatM.highTo (leqL ws os) (lvl ws.length x) ws.length))) ∧ Ext w w') := by
  have HH := hide (labHigh_any g ws os A c m x w h gd hx hm hm')
  have HNm := hide (fun (w1 : World) (hE : Ext w w1) (i : Int) => latName_any g ws os w1 (h.ext hE) i)
  have hle := LatM.highTo_le (leqL ws os) (lvl ws.length x) ws.length
  have hlt := fun k (hk : k ∈ LatM.highTo (leqL ws os) (lvl ws.length x) ws.length) => (LatM.highTo_lt hk).1
  obtain ⟨H, hH⟩ : ∃ H, H = LatM.highTo (leqL ws os) (lvl ws.length x) ws.length := ⟨_, rfl⟩
  rw [← hH] at HH hle hlt ⊢
  have HS := hide (textS_short gd hlt (by have := gd.few; omega))
  have HLT := hide hlt
  have hq : H.length ≤ 32 := by have := gd.few; omega
  obtain ⟨q, hqq⟩ : ∃ q, q = H.length := ⟨_, rfl⟩
  have HQ := hide hqq
  rw [← hqq] at hq
  obtain ⟨Z, hZ⟩ : ∃ Z, Z = H.map (wNm ws) := ⟨_, rfl⟩
  have HZ := hide hZ
  have HZL := hide (show Z.length = q by rw [hZ, List.length_map, hqq])
  clear hH hle hlt h gd hx hm hqq hZ
  go_enter Tryz.func19, Tryz.ntmps19
  go_wp2_with fail
  refine HH.out.mono ?_
  rintro e w1 ⟨A1, c1, rfl, hN, hE1⟩
  rw [← HQ.out]
  have HN := hide hN
  have HE1 := hide hE1
  clear hN hE1
  go_wp2_with fail
  go_loopw [12, 5] (fun i o wr => ∃ (k : Nat) (Ao : Option Addr) (co : Nat), k ≤ q ∧ i = .int .i64 k ∧ o = .slice Ao k co ∧ Ext w1 wr ∧ wr.ownsRow w1.heap.size 9 1 (.slice Ao k co) k (strCells (Z.take k))) (fun i _ _ => q - (intOf i).toNat)
  case atStart => exact ⟨0, none, 0, Nat.zero_le _, rfl, rfl, Ext.rfl' _, World.ownsRow_nil _ _ _ _⟩
  case round =>
    obtain ⟨k, Ao, co, hk, rfl, rfl, hE, hO⟩ := hrel
    have HE := hide hE
    have HO := hide hO
    by_cases hlt : k < q
    · have hkl : k < H.length := by rw [← HQ.out]; exact hlt
      obtain ⟨b, o, rfl, hbs, hcell⟩ := HN.out.cell (by omega)
      have q1 := (hE.cell (p := ⟨b, o + k, none⟩) hbs).trans (hcell k hkl)
      have hkn := HLT.out _ (List.getElem_mem hkl)
      have hst : Z.take (k + 1) = Z.take k ++ [wNm ws H[k]] := by rw [List.take_succ_eq_append_getElem (by rw [HZL.out]; exact hlt)]; congr 1; simp only [HZ.out, List.getElem_map]
      have hnm := HNm.out wr (HE1.out.trans' hE) (H[k] : Nat)
      have e0 : nmI ws ((H[k] : Nat) : Int) = wNm ws H[k] := by unfold nmI; rw [hasI_nat hkn, if_pos rfl, Int.toNat_natCast]
      rw [e0] at hnm
      obtain ⟨i, hi⟩ : ∃ i, i = H[k] := ⟨_, rfl⟩
      rw [← hi] at q1 hst hnm
      obtain ⟨s, hs⟩ : ∃ s, s = wNm ws i := ⟨_, rfl⟩
      rw [← hs] at hst hnm
      have HST := hide hst
      have HNM := hide hnm
      have hsz := hE.size
      clear hcell hkn hst hnm e0 hi hs hE hO
      go_wp2_with fail
      refine HNM.out.mono ?_
      rintro e w' ⟨rfl, rfl⟩
      go_wp2_with (at_builtin; refine wpList_append_S _ rfl _ _ rfl w1.heap.size _ k (Z.take k) rfl wr.heap.size s _ rfl (HO.out.alloc _) (reads_new _ _ _) (by omega) (by simp; omega) ?_)
      intro A3 c3 w3 hown3 hgrow3 _
      have HE3 := hide (grown_ext' (w := w1) (wr := wr) (base := w1.heap.size) HE.out ((Ext.rfl' wr).alloc (Nat.le_refl _) _) hgrow3 HO.out (Nat.le_refl _))
      rw [← HST.out] at hown3
      have HO3 := hide hown3
      clear hown3 hgrow3 q1
      go_wp2_with fail
      go_roundw
      case rel => exact ⟨k + 1, A3, c3, by omega, by go_num, rfl, HE3.out, HO3.out⟩
      case measure => simp [intOf]; omega
    · obtain rfl : k = q := by omega
      have hO' := HO.out
      rw [List.take_of_length_le (by rw [HZL.out]; exact Nat.le_refl _), HZ.out] at hO'
      have hc : k ≤ co := by
        rcases hO'.2 with ⟨h1, h2⟩ | ⟨_, _, _, h1, _, _, h2, _⟩
        · omega
        · cases h1; exact h2
      have hsa : StrAt wr wr.heap.size Ao (H.map (wNm ws)) := by
        unfold StrAt
        rw [List.length_map, ← HQ.out]
        exact Reads.of_own hO'
      have HJ := hide (join_any Ao co k (H.map (wNm ws)) ⟨#[43]⟩ wr hsa (by rw [List.length_map]; exact HQ.out) hc (by omega) HS.out)
      clear hO' hc hsa hE hO
      go_wp2_with fail
      refine HJ.out.mono ?_
      rintro e w4 ⟨rfl, hE4⟩
      have HE4 := hide ((HE1.out.trans' HE.out).trans' hE4)
      clear hE4
      go_wp2_with fail
      go_ret
      exact ⟨rfl, HE4.out⟩
end Go.Proofs.YtpjlhpaenmfieaaGreat
