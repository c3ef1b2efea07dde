/- kinds: what is wrong with a label, walked: the code's and the document's. -/
import Derived.Test.YtanpljalbijfkaaKinQ
import Derived.Test.YtanpljalbijfkaaKinL
import Derived.Test.YtanpljalbijfkaaNamU
namespace Go.Proofs.Ytanpljalbijfkaa
open Go.RowKit

theorem labelF_hit {l : List Wd} {n k : Nat} (hn : n = l.length) (h32 : ¬ 32 < n) (hk : k < n) (h : ∀ j, j < k → badAt l j = none) (hb : rightB (wNm l k) = false) : labelF l = (9, wPl l k) := by
  unfold labelF
  rw [if_neg (by omega), firstOf_hit (by omega) h (show badAt l k = some (9, wPl l k) from if_pos hb)]
  rfl
theorem labelF_miss {l : List Wd} {n : Nat} (hn : n = l.length) (h32 : ¬ 32 < n) (h : ∀ j, j < n → badAt l j = none) : labelF l = (0, 0) := by
  unfold labelF
  rw [if_neg (by omega), firstOf_miss.2 (by rw [← hn]; exact h)]
  rfl
theorem badAt_none {l : List Wd} {k : Nat} (hb : rightB (wNm l k) = true) : badAt l k = none := by
  unfold badAt
  rw [hb]; rfl

set_option maxRecDepth 100000 in
set_option maxHeartbeats 2000000 in
theorem label_any (A : Option Addr) (c n : Nat) (l : List Wd) (w : World) (h : WdsAt w w.heap.size A l) (hn : n = l.length) (hsz : WdsSz l) :
    Calls Try.prog 47 #[.slice A n c] w (fun e w' => e = .returned (fltV (labelF l)) ∧ Ext w w') := by
  by_cases c1 : 32 < n
  · have e : labelF l = (8, wPl l 32) := by unfold labelF; rw [if_pos (by omega)]
    rw [e]
    obtain ⟨b, o, rfl, hbs, hcell⟩ := h.cell (by omega)
    have d1 := ((Ext.rfl' w).alloc (Nat.le_refl _) (.cells #[.int .i64 0, .int .i64 0] 32)).cell (p := ⟨b, o + 32 * 2 + 1, none⟩) hbs
    rw [(hcell 32 (by omega)).2] at d1
    obtain ⟨x, hx⟩ : ∃ x, x = wPl l 32 := ⟨_, rfl⟩
    rw [← hx] at d1 ⊢
    obtain ⟨w1, hw1⟩ : ∃ x, x = w.alloc (.cells #[.int .i64 0, .int .i64 0] 32) := ⟨_, rfl⟩
    have hB : Blk w1 w.heap.size 32 #[.int .i64 0, .int .i64 0] := by rw [hw1]; exact Blk.new _ _ _
    have HE := hide (show Ext w w1 by rw [hw1]; exact (Ext.rfl' w).alloc (Nat.le_refl _) _)
    obtain ⟨g, hg⟩ : ∃ g, g = w.heap.size := ⟨_, rfl⟩
    rw [← hg] at hB
    rw [← hw1] at d1
    have HB := hide hB
    have HG := hide hg
    have HW := hide hw1
    clear hx hcell h hn e hw1 hg hB
    go_enter Try.func47, Try.ntmps47
    go_upto_region 1 with fail
    rw [← HW.out, ← HG.out]
    go_wp2_with fail
    refine (bad_any 8 x w1).mono ?_
    rintro e w2 ⟨rfl, hE2⟩
    have HB2 := hide (HB.out.ext hE2)
    have HE2 := hide (HE.out.trans' hE2)
    have b0 := HB2.out.cell 0
    have b1 := HB2.out.cell 1
    have f0 := HB2.out.free 0
    have f1 := HB2.out.free 1
    simp only [List.getElem?_toArray, List.getElem?_cons_zero, List.getElem?_cons_succ] at b0 b1
    unfold fltV
    clear hE2
    go_wp2_with fail
    exact fault_ret (f := (8, x)) (g := g) ((HB2.out.set_ 0 _).set_ 1 _) rfl rfl rfl ⟨rfl, ext_two' HE2.out (by rw [HG.out]; exact Nat.le_refl _) _ _⟩
  · have HN := hide hn
    have HH := hide h
    have HSZ := hide hsz
    have HIT := hide (fun k (hk : k < n) hh hb => labelF_hit (k := k) hn c1 hk hh hb)
    have HMI := hide (fun hh => labelF_miss hn c1 hh)
    obtain ⟨R, hR⟩ : ∃ R, R = labelF l := ⟨_, rfl⟩
    rw [← hR] at HIT HMI ⊢
    have i32 : ¬ (32 : Int) < (n : Int) := by omega
    clear hR hn h hsz
    go_enter Try.func47, Try.ntmps47
    go_wp2_with fail
    go_loopw [15] (fun i wr => ∃ k : Nat, k ≤ n ∧ i = .int .i64 k ∧ Ext w wr ∧ Blk wr w.heap.size 32 #[.int .i64 0, .int .i64 0] ∧ Hid (∀ j, j < k → badAt l j = none)) (fun i _ => n - (intOf i).toNat)
    case atStart => exact ⟨0, Nat.zero_le _, rfl, (Ext.rfl' w).alloc (Nat.le_refl _) _, Blk.new _ _ _, fun j hj => absurd hj (by omega)⟩
    case round =>
      obtain ⟨k, hk, rfl, hE, hB, HA⟩ := hrel
      have HE := hide hE
      have HB := hide hB
      by_cases hlt : k < n
      · have hkl : k < l.length := by rw [← HN.out]; exact hlt
        obtain ⟨b, o, rfl, hbs, hcell⟩ := HH.out.cell (by omega)
        obtain ⟨p1, p2⟩ := hcell k hkl
        have q1 := (hE.cell (p := ⟨b, o + k * 2, none⟩) hbs).trans p1
        have q2 := (hE.cell (p := ⟨b, o + k * 2 + 1, none⟩) hbs).trans p2
        have hs := HSZ.out.2 k
        have hh := HIT.out k hlt HA.out
        have hn' : rightB (wNm l k) = true → badAt l k = none := badAt_none
        obtain ⟨x, hx⟩ : ∃ x, x = wNm l k := ⟨_, rfl⟩
        obtain ⟨p, hp⟩ : ∃ p, p = wPl l k := ⟨_, rfl⟩
        rw [← hx] at q1 hs hh hn'
        rw [← hp] at q2 hh
        have HR := hide (fun w => right_any x w hs)
        obtain ⟨rb, hrb⟩ : ∃ r, r = rightB x := ⟨_, rfl⟩
        rw [← hrb] at HR hh hn'
        have i0 : (0 : Int) ≤ (k : Int) := by omega
        have i1 : (k : Int) < (n : Int) := by omega
        obtain ⟨w1, hw1⟩ : ∃ wz, wz = wr.alloc (.cells #[.string x, .int .i64 p] 25) := ⟨_, rfl⟩
        have hV : Blk w1 wr.heap.size 25 #[.string x, .int .i64 p] := by rw [hw1]; exact Blk.new _ _ _
        have hB1 : Blk w1 w.heap.size 32 #[.int .i64 0, .int .i64 0] := by rw [hw1]; exact hB.alloc _
        have hE1 : Ext w w1 := by rw [hw1]; exact hE.alloc hE.size _
        obtain ⟨gv, hgv⟩ : ∃ g, g = wr.heap.size := ⟨_, rfl⟩
        rw [← hgv] at hV
        have v0 := hV.cell 0
        have v1 := hV.cell 1
        simp only [List.getElem?_toArray, List.getElem?_cons_zero, List.getElem?_cons_succ] at v0 v1
        have HH1 := hide hh
        have HN1 := hide hn'
        have HB1 := hide hB1
        have HE1 := hide hE1
        have HW1 := hide hw1
        have HG1 := hide hgv
        clear hcell hx hp hrb hs hkl hh hn' p1 p2 hE hB hw1 hgv hV hB1 hE1 HE HB
        cases rb with
        | false =>
          go_upto_region 6 with fail
          rw [← HW1.out, ← HG1.out]
          go_wp2_with fail
          refine (HR.out _).mono ?_
          rintro e w' ⟨rfl, rfl⟩
          go_wp2_with fail
          refine (bad_any 9 p _).mono ?_
          rintro e w2 ⟨rfl, hE2⟩
          have HB2 := hide (HB1.out.ext hE2)
          have HE2 := hide (HE1.out.trans' hE2)
          have b0 := HB2.out.cell 0
          have b1 := HB2.out.cell 1
          have f0 := HB2.out.free 0
          have f1 := HB2.out.free 1
          simp only [List.getElem?_toArray, List.getElem?_cons_zero, List.getElem?_cons_succ] at b0 b1
          unfold fltV
          clear hE2
          go_wp2_with fail
          exact fault_ret (f := (9, p)) (g := w.heap.size) ((HB2.out.set_ 0 _).set_ 1 _) rfl rfl rfl ⟨by rw [HH1.out (by trivial)], ext_two' HE2.out (Nat.le_refl _) _ _⟩
        | true =>
          have HA2 := hide (below_st HA.out (HN1.out (by trivial)))
          clear HA
          go_upto_region 6 with fail
          rw [← HW1.out, ← HG1.out]
          go_wp2_with fail
          refine (HR.out _).mono ?_
          rintro e w' ⟨rfl, rfl⟩
          go_wp2_with fail
          go_roundw
          case rel => exact ⟨k + 1, by omega, by go_num, HE1.out, HB1.out, HA2.out⟩
          case measure => simp [intOf]; omega
      · obtain rfl : k = n := by omega
        have HX := hide (HMI.out HA.out)
        have b0 := HB.out.cell 0
        have b1 := HB.out.cell 1
        have f0 := HB.out.free 0
        have f1 := HB.out.free 1
        simp only [List.getElem?_toArray, List.getElem?_cons_zero, List.getElem?_cons_succ] at b0 b1
        clear HA hE hB
        go_wp2_with fail
        exact fault_ret (f := (0, 0)) (g := w.heap.size) ((HB.out.set_ 0 _).set_ 1 _) rfl rfl rfl ⟨by rw [HX.out], ext_two' HE.out (Nat.le_refl _) _ _⟩

set_option maxRecDepth 100000 in
set_option maxHeartbeats 2000000 in
theorem refLabel_any (A : Option Addr) (c n : Nat) (l : List Wd) (w : World) (h : WdsAt w w.heap.size A l) (hn : n = l.length) (hsz : WdsSz l) :
    Calls Try.prog 39 #[.slice A n c] w (fun e w' => e = .returned (fltV (labelF l)) ∧ Ext w w') := by
  obtain ⟨w0, hw0⟩ : ∃ x, x = w.alloc (.cells #[.int .i64 0, .int .i64 0] 32) := ⟨_, rfl⟩
  have hB : Blk w0 w.heap.size 32 #[.int .i64 0, .int .i64 0] := by rw [hw0]; exact Blk.new _ _ _
  have hE : Ext w w0 := by rw [hw0]; exact (Ext.rfl' w).alloc (Nat.le_refl _) _
  have h0 := h.ext hE
  obtain ⟨g, hg⟩ : ∃ g, g = w.heap.size := ⟨_, rfl⟩
  rw [← hg] at hB
  have b0 := hB.cell 0
  have b1 := hB.cell 1
  have f0 := hB.free 0
  have f1 := hB.free 1
  simp only [List.getElem?_toArray, List.getElem?_cons_zero, List.getElem?_cons_succ] at b0 b1
  have HW := hide hw0
  have HG := hide hg
  have HB := hide hB
  have HE := hide hE
  by_cases c1 : 32 < n
  · have e : labelF l = (8, wPl l 32) := by unfold labelF; rw [if_pos (by omega)]
    rw [e]
    obtain ⟨b, o, rfl, hbs, hcell⟩ := h0.cell (by omega)
    have d1 := (hcell 32 (by omega)).2
    obtain ⟨x, hx⟩ : ∃ x, x = wPl l 32 := ⟨_, rfl⟩
    rw [← hx] at d1 ⊢
    clear hx hcell h hn e hw0 hg hB hE h0
    go_enter Try.func39, Try.ntmps39
    go_upto_region 1 with fail
    rw [← HW.out, ← HG.out]
    go_wp2_with fail
    exact fault_ret (f := (8, x)) (g := g) ((HB.out.set_ 0 _).set_ 1 _) rfl rfl rfl ⟨rfl, ext_two' HE.out (by rw [HG.out]; exact Nat.le_refl _) _ _⟩
  · have HN := hide hn
    have HH := hide h0
    have HSZ := hide hsz
    have HIT := hide (fun k (hk : k < n) hh hb => labelF_hit (k := k) hn c1 hk hh hb)
    have HMI := hide (fun hh => labelF_miss hn c1 hh)
    obtain ⟨R, hR⟩ : ∃ R, R = labelF l := ⟨_, rfl⟩
    rw [← hR] at HIT HMI ⊢
    have i32 : ¬ (32 : Int) < (n : Int) := by omega
    clear hR hn h hsz hw0 hg hB hE h0
    go_enter Try.func39, Try.ntmps39
    go_upto_region 1 with fail
    rw [← HW.out, ← HG.out]
    go_wp2_with fail
    go_loop [3] (fun i => ∃ k : Nat, k ≤ n ∧ i = .int .i64 k ∧ Hid (∀ j, j < k → badAt l j = none)) (fun i => n - (intOf i).toNat)
    case atStart => exact ⟨0, Nat.zero_le _, rfl, fun j hj => absurd hj (by omega)⟩
    case round =>
      obtain ⟨k, hk, rfl, HA⟩ := hrel
      by_cases hlt : k < n
      · have hkl : k < l.length := by rw [← HN.out]; exact hlt
        obtain ⟨b, o, rfl, hbs, hcell⟩ := HH.out.cell (by omega)
        obtain ⟨p1, p2⟩ := hcell k hkl
        have hs := HSZ.out.2 k
        have hh := HIT.out k hlt HA.out
        have hn' : rightB (wNm l k) = true → badAt l k = none := badAt_none
        obtain ⟨x, hx⟩ : ∃ x, x = wNm l k := ⟨_, rfl⟩
        obtain ⟨p, hp⟩ : ∃ p, p = wPl l k := ⟨_, rfl⟩
        rw [← hx] at p1 hs hh hn'
        rw [← hp] at p2 hh
        have HR := hide (fun w => refRight_any x w hs)
        obtain ⟨rb, hrb⟩ : ∃ r, r = rightB x := ⟨_, rfl⟩
        rw [← hrb] at HR hh hn'
        have i0 : (0 : Int) ≤ (k : Int) := by omega
        have i1 : (k : Int) < (n : Int) := by omega
        have HH1 := hide hh
        have HN1 := hide hn'
        clear hcell hx hp hrb hs hkl hh hn'
        cases rb with
        | false =>
          go_wp2_with fail
          refine (HR.out _).mono ?_
          rintro e w' ⟨rfl, rfl⟩
          go_wp2_with fail
          exact fault_ret (f := (9, p)) (g := g) ((HB.out.set_ 0 _).set_ 1 _) rfl rfl rfl ⟨by rw [HH1.out (by trivial)], ext_two' HE.out (by rw [HG.out]; exact Nat.le_refl _) _ _⟩
        | true =>
          have HA2 := hide (below_st HA.out (HN1.out (by trivial)))
          clear HA
          go_wp2_with fail
          refine (HR.out _).mono ?_
          rintro e w' ⟨rfl, rfl⟩
          go_wp2_with fail
          go_round
          case rel => exact ⟨k + 1, by omega, by go_num, HA2⟩
          case measure => simp [intOf]; omega
      · obtain rfl : k = n := by omega
        have HX := hide (HMI.out HA.out)
        clear HA
        go_wp2_with fail
        exact fault_ret (f := (0, 0)) (g := g) ((HB.out.set_ 0 _).set_ 1 _) rfl rfl rfl ⟨by rw [HX.out], ext_two' HE.out (by rw [HG.out]; exact Nat.le_refl _) _ _⟩
end Go.Proofs.Ytanpljalbijfkaa
/- kinds: what is wrong with a name of some, walked: the code's and the document's. -/
namespace Go.Proofs.Ytanpljalbijfkaa
open Go.RowKit

def listedF (l : List ByteArray) (k : Nat) (a : Int) : Flt := if rightB (l.getD k ⟨#[]⟩) = false then (9, a) else if 0 ≤ twiceL l then (10, a) else (0, 0)
theorem wrap_small (k : Nat) (h : k < 1000000) : wrap64 (k : Int) = (k : Int) := IntWalk.wrap64_in _ (by omega)
/-- As the next name of a list. -/
theorem listed_next {l : List ByteArray} {k : Nat} (hk : k < l.length) (a : Int) (h : ∀ j, j < k → listE l j = 0) : listedF (l.take (k + 1)) k a = if listE l k = 0 then (0, 0) else (listE l k, a) := by
  have ht := twice_new hk (fun j hj => (listE_zero (h j hj)).2)
  have e : (l.take (k + 1)).getD k ⟨#[]⟩ = l.getD k ⟨#[]⟩ := by
    rw [List.getD_eq_getElem?_getD, List.getD_eq_getElem?_getD, List.getElem?_take_of_lt (Nat.lt_succ_self k)]
  unfold listedF listE
  rw [e]
  cases rightB (l.getD k ⟨#[]⟩) with
  | false => rfl
  | true =>
    cases hc : twiceP l k with
    | false =>
      have h1 := ht.2 hc
      have h2 : ¬ 0 ≤ twiceL (l.take (k + 1)) := by omega
      simp [h2]
    | true =>
      have : ¬ twiceL (l.take (k + 1)) < 0 := fun h' => by rw [ht.1 h'] at hc; cases hc
      have h2 : 0 ≤ twiceL (l.take (k + 1)) := by omega
      simp [h2]

set_option maxRecDepth 100000 in
set_option maxHeartbeats 2000000 in
theorem listed_any (A : Option Addr) (c n k : Nat) (a : Int) (l : List ByteArray) (w : World) (h : StrAt w w.heap.size A l) (hn : n = l.length) (hk : n = k + 1) (hle : n ≤ 1000000) (hsz : (l.getD k ⟨#[]⟩).size ≤ maxLen) :
    Calls Try.prog 42 #[.slice A n c, .int .i64 a] w (fun e w' => e = .returned (fltV (listedF l k a)) ∧ Ext w w') := by
  have e1 : wrap64 (k : Int) = (k : Int) := wrap_small k (by clear hsz h; omega)
  obtain ⟨w0, hw0⟩ : ∃ x, x = w.alloc (.cells #[.int .i64 0, .int .i64 0] 32) := ⟨_, rfl⟩
  have hB : Blk w0 w.heap.size 32 #[.int .i64 0, .int .i64 0] := by rw [hw0]; exact Blk.new _ _ _
  have hE : Ext w w0 := by rw [hw0]; exact (Ext.rfl' w).alloc (Nat.le_refl _) _
  have h0 : StrAt w0 w0.heap.size A l := h.ext hE
  have hkl : k < l.length := by omega
  obtain ⟨b, o, rfl, hbs, hcell⟩ := h0.cell (by omega)
  have d1 := hcell k hkl
  have HT := hide (twice_any (some ⟨b, o, none⟩) c n l w0 h0 hn hle)
  have hl : l.getD k ⟨#[]⟩ = l[k] := by rw [List.getD_eq_getElem?_getD, List.getElem?_eq_getElem hkl]; rfl
  have hx : listedF l k a = if rightB l[k] = false then (9, a) else if 0 ≤ twiceL l then (10, a) else (0, 0) := by unfold listedF; rw [hl]
  rw [hl] at hsz
  obtain ⟨s, hs⟩ : ∃ s, s = l[k] := ⟨_, rfl⟩
  rw [← hs] at d1 hx hsz
  have HR := hide (fun w => right_any s w hsz)
  obtain ⟨rb, hrb⟩ : ∃ r, r = rightB s := ⟨_, rfl⟩
  obtain ⟨t, ht⟩ : ∃ r, r = twiceL l := ⟨_, rfl⟩
  obtain ⟨R, hR⟩ : ∃ R, R = listedF l k a := ⟨_, rfl⟩
  rw [← hR] at hx ⊢
  rw [← hrb] at hx HR
  rw [← ht] at hx HT
  have HX := hide hx
  obtain ⟨g, hg⟩ : ∃ g, g = w.heap.size := ⟨_, rfl⟩
  rw [← hg] at hB
  have HW := hide hw0
  have HG := hide hg
  have HB := hide hB
  have HE := hide hE
  subst hk
  have i0 : (0 : Int) ≤ (k : Int) := by omega
  have i1 : (k : Int) < (k : Int) + 1 := by omega
  clear hR hx ht hrb hs hl hcell h0 hE hB hg hw0 h hn hkl hsz hle
  cases rb with
  | false =>
    go_enter Try.func42, Try.ntmps42
    go_upto_region 1 with fail
    rw [← HW.out, ← HG.out]
    go_wp2_with fail
    refine (HR.out _).mono ?_
    rintro e w' ⟨rfl, rfl⟩
    go_wp2_with fail
    refine (bad_any 9 a _).mono ?_
    rintro e w2 ⟨rfl, hE2⟩
    have HB2 := hide (HB.out.ext hE2)
    have HE2 := hide (HE.out.trans' hE2)
    have b0 := HB2.out.cell 0
    have b1 := HB2.out.cell 1
    have f0 := HB2.out.free 0
    have f1 := HB2.out.free 1
    simp only [List.getElem?_toArray, List.getElem?_cons_zero, List.getElem?_cons_succ] at b0 b1
    unfold fltV
    clear hE2
    go_wp2_with fail
    exact fault_ret (f := (9, a)) (g := g) ((HB2.out.set_ 0 _).set_ 1 _) rfl rfl rfl ⟨by rw [HX.out]; rfl, ext_two' HE2.out (by rw [HG.out]; exact Nat.le_refl _) _ _⟩
  | true =>
    by_cases c0 : 0 ≤ t
    · go_enter Try.func42, Try.ntmps42
      go_upto_region 1 with fail
      rw [← HW.out, ← HG.out]
      go_wp2_with fail
      refine (HR.out _).mono ?_
      rintro e w' ⟨rfl, rfl⟩
      go_wp2_with fail
      refine HT.out.mono ?_
      rintro e w1 ⟨rfl, hE1⟩
      have HB1 := hide (HB.out.ext hE1)
      have HE1 := hide (HE.out.trans' hE1)
      clear hE1 d1
      go_wp2_with fail
      refine (bad_any 10 a _).mono ?_
      rintro e w2 ⟨rfl, hE2⟩
      have HB2 := hide (HB1.out.ext hE2)
      have HE2 := hide (HE1.out.trans' hE2)
      have b0 := HB2.out.cell 0
      have b1 := HB2.out.cell 1
      have f0 := HB2.out.free 0
      have f1 := HB2.out.free 1
      simp only [List.getElem?_toArray, List.getElem?_cons_zero, List.getElem?_cons_succ] at b0 b1
      unfold fltV
      clear hE2
      go_wp2_with fail
      exact fault_ret (f := (10, a)) (g := g) ((HB2.out.set_ 0 _).set_ 1 _) rfl rfl rfl ⟨by rw [HX.out, if_neg (by decide), if_pos c0], ext_two' HE2.out (by rw [HG.out]; exact Nat.le_refl _) _ _⟩
    · go_enter Try.func42, Try.ntmps42
      go_upto_region 1 with fail
      rw [← HW.out, ← HG.out]
      go_wp2_with fail
      refine (HR.out _).mono ?_
      rintro e w' ⟨rfl, rfl⟩
      go_wp2_with fail
      refine HT.out.mono ?_
      rintro e w1 ⟨rfl, hE1⟩
      have HB1 := hide (HB.out.ext hE1)
      have HE1 := hide (HE.out.trans' hE1)
      have b0 := HB1.out.cell 0
      have b1 := HB1.out.cell 1
      have f0 := HB1.out.free 0
      have f1 := HB1.out.free 1
      simp only [List.getElem?_toArray, List.getElem?_cons_zero, List.getElem?_cons_succ] at b0 b1
      clear hE1 d1
      go_wp2_with fail
      exact fault_ret (f := (0, 0)) (g := g) ((HB1.out.set_ 0 _).set_ 1 _) rfl rfl rfl ⟨by rw [HX.out, if_neg (by decide), if_neg (by omega)], ext_two' HE1.out (by rw [HG.out]; exact Nat.le_refl _) _ _⟩

theorem listE_hit {l : List Wd} {n k i : Nat} (hn : n = l.length) (hi : i < n) (hr : rightB (wNm l i) = true) (hk : k < i) (he : wNm l k = wNm l i) : listE (nms l) i = 10 := by
  have h1 : i < (nms l).length := by rw [nms_length]; omega
  have e1 : (nms l).getD i ⟨#[]⟩ = wNm l i := by rw [List.getD_eq_getElem?_getD, List.getElem?_eq_getElem h1, Option.getD_some, nms_at h1]
  unfold listE
  rw [e1, hr, if_neg (by decide), if_pos]
  rw [twiceP_own h1]
  exact ⟨k, hk, by omega, by rw [nms_at, nms_at]; exact he⟩
theorem listE_bad {l : List Wd} {n i : Nat} (hn : n = l.length) (hi : i < n) (hr : rightB (wNm l i) = false) : listE (nms l) i = 9 := by
  have h1 : i < (nms l).length := by rw [nms_length]; omega
  have e1 : (nms l).getD i ⟨#[]⟩ = wNm l i := by rw [List.getD_eq_getElem?_getD, List.getElem?_eq_getElem h1, Option.getD_some, nms_at h1]
  unfold listE
  rw [e1, hr]; rfl
theorem listE_miss {l : List Wd} {n i : Nat} (hn : n = l.length) (hi : i < n) (hr : rightB (wNm l i) = true) (h : ∀ k, k < i → wNm l k ≠ wNm l i) : listE (nms l) i = 0 := by
  have h1 : i < (nms l).length := by rw [nms_length]; omega
  have e1 : (nms l).getD i ⟨#[]⟩ = wNm l i := by rw [List.getD_eq_getElem?_getD, List.getElem?_eq_getElem h1, Option.getD_some, nms_at h1]
  unfold listE
  rw [e1, hr, if_neg (by decide), if_neg]
  rw [twiceP_own h1]
  rintro ⟨k, hk, hl, e⟩
  rw [nms_at, nms_at] at e
  exact h k hk e

set_option maxRecDepth 100000 in
set_option maxHeartbeats 2000000 in
theorem refListed_any (A : Option Addr) (c n i : Nat) (l : List Wd) (w : World) (h : WdsAt w w.heap.size A l) (hn : n = l.length) (hi : i < n) (hle : n ≤ 1000000) (hsz : ∀ k, (wNm l k).size ≤ maxLen) :
    Calls Try.prog 21 #[.slice A n c, .int .i64 i] w (fun e w' => e = .returned (.int .i64 (listE (nms l) i)) ∧ Ext w w') := by
  obtain ⟨b, o, rfl, hbs, hcell⟩ := h.cell (by omega)
  have HC := hide hcell
  have d1 := (hcell i (by omega)).1
  have HB9 := hide (fun hr => listE_bad hn hi hr)
  have HHIT := hide (fun k hr hk he => listE_hit (k := k) hn hi hr hk he)
  have HMIS := hide (fun hr hh => listE_miss hn hi hr hh)
  have HN := hide hn
  obtain ⟨s, hs⟩ : ∃ s, s = wNm l i := ⟨_, rfl⟩
  have hsz' := hsz i
  rw [← hs] at d1 hsz' HB9 HHIT HMIS
  have HR := hide (fun w => refRight_any s w hsz')
  obtain ⟨rb, hrb⟩ : ∃ r, r = rightB s := ⟨_, rfl⟩
  obtain ⟨R, hR⟩ : ∃ R, R = listE (nms l) i := ⟨_, rfl⟩
  rw [← hR] at HB9 HHIT HMIS ⊢
  rw [← hrb] at HR HB9 HHIT HMIS
  have i0 : (0 : Int) ≤ (i : Int) := by omega
  have i1 : (i : Int) < (n : Int) := by omega
  clear hR hrb hs hcell h hn hsz hsz'
  cases rb with
  | false =>
    go_enter Try.func21, Try.ntmps21
    go_wp2_with fail
    refine (HR.out _).mono ?_
    rintro e w' ⟨rfl, rfl⟩
    go_wp2_with fail
    go_ret
    exact ⟨by rw [HB9.out (by trivial)]; rfl, Ext.rfl' _⟩
  | true =>
    go_enter Try.func21, Try.ntmps21
    go_wp2_with fail
    refine (HR.out _).mono ?_
    rintro e w' ⟨rfl, rfl⟩
    go_wp2_with fail
    go_loopw [5] (fun x wr => ∃ k : Nat, k ≤ i ∧ x = .int .i64 k ∧ Ext w wr ∧ Hid (∀ j, j < k → wNm l j ≠ s)) (fun x _ => i - (intOf x).toNat)
    case atStart => exact ⟨0, Nat.zero_le _, rfl, Ext.rfl' _, fun j hj => absurd hj (by omega)⟩
    case round =>
      obtain ⟨k, hk, rfl, hE, HA⟩ := hrel
      by_cases hlt : k < i
      · have q2 := (hE.cell (p := ⟨b, o + i * 2, none⟩) hbs).trans d1
        have q1 := (hE.cell (p := ⟨b, o + k * 2, none⟩) hbs).trans (HC.out k (by rw [← HN.out]; omega)).1
        have HE := hide hE
        have hhit := HHIT.out k (by trivial) hlt
        have HST := hide (fun hh => below_st HA.out (show wNm l k ≠ s from hh))
        obtain ⟨y, hy⟩ : ∃ y, y = wNm l k := ⟨_, rfl⟩
        rw [← hy] at q1 hhit HST
        have i2 : (0 : Int) ≤ (k : Int) := by omega
        have i3 : (k : Int) < (n : Int) := by omega
        by_cases he : y = s
        · have HX := hide (hhit he)
          have hq : (y.toList == s.toList) = true := by rw [he]; simp
          clear hhit hy hE HST he
          go_wp2_with fail
          go_quiet (fail)
          go_wp2_with fail
          go_ret
          exact ⟨by rw [HX.out]; rfl, below_drewN HE.out _⟩
        · have HA2 := hide (HST.out he)
          have hq : (y.toList == s.toList) = false := by rw [str_eq]; exact decide_eq_false he
          clear hhit hy hE HST he HA
          go_wp2_with fail
          go_quiet (fail)
          go_wp2_with fail
          go_roundw
          case rel => exact ⟨k + 1, by omega, by go_num, below_drewN HE.out _, HA2.out⟩
          case measure => simp [intOf]; omega
      · obtain rfl : k = i := by omega
        have HX := hide (HMIS.out (by trivial) HA.out)
        have HE := hide hE
        clear HA hE
        go_wp2_with fail
        go_ret
        exact ⟨by rw [HX.out]; rfl, HE.out⟩
end Go.Proofs.Ytanpljalbijfkaa
