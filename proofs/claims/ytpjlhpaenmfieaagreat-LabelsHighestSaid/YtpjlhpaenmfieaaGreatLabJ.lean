/- The law LabelsHighest, walked. -/
import Derived.Test.YtpjlhpaenmfieaaGreatLabG
import Derived.Test.YtpjlhpaenmfieaaGreatLabI
namespace Go.Proofs.YtpjlhpaenmfieaaGreat
open Go.RowKit

theorem bytes_app (a b : List UInt8) : (⟨(a ++ b).toArray⟩ : ByteArray) = ⟨a.toArray⟩ ++ ⟨b.toArray⟩ := by
  apply ByteArray.ext
  simp
theorem empty_app (x : ByteArray) : (⟨#[]⟩ : ByteArray) ++ x = x := by
  apply ByteArray.ext
  simp
theorem joinS_nil (sep : ByteArray) : joinS [] sep = ⟨#[]⟩ := rfl
theorem joinS_one (x sep : ByteArray) : joinS [x] sep = x := by
  unfold joinS
  rw [List.map_cons, List.map_nil, Lib.join_one, Lib.mk_data]
theorem joinS_snoc {xs : List ByteArray} (h : xs ≠ []) (x sep : ByteArray) : joinS (xs ++ [x]) sep = joinS xs sep ++ sep ++ x := by
  obtain ⟨a, l, rfl⟩ := List.exists_cons_of_ne_nil h
  unfold joinS
  rw [List.cons_append, List.map_cons, List.map_cons, Lib.join_cons, Lib.join_cons, List.map_append, Lib.joinTail, Lib.joinTail, List.map_append, List.flatten_append, ← List.append_assoc, bytes_app]
  rw [List.map_cons, List.map_nil, List.map_cons, List.map_nil, List.flatten_cons, List.flatten_nil, List.append_nil, bytes_app, bytes_app sep.data.toList x.data.toList]
  rw [show (⟨sep.data.toList.toArray⟩ : ByteArray) = sep from Lib.mk_data sep, show (⟨x.data.toList.toArray⟩ : ByteArray) = x from Lib.mk_data x]
  simp only [ByteArray.append_assoc]

theorem joinS_size {xs : List ByteArray} (h : ∀ x ∈ xs, x.size ≤ 32) : (joinS xs ⟨#[43]⟩).size ≤ 33 * xs.length := by
  unfold joinS
  show (Lib.join (xs.map (·.data.toList)) ([43] : List UInt8)).toArray.size ≤ _
  rw [List.size_toArray]
  cases xs with
  | nil => simp [Lib.join, List.intercalate]
  | cons a l =>
    rw [List.map_cons, Lib.join_length]
    have := lens_le (xs := (a :: l).map (·.data.toList)) (b := 32) (by
      intro x hx
      obtain ⟨y, hy, rfl⟩ := List.mem_map.1 hx
      rw [Array.length_toList]
      exact h y hy)
    simp only [List.map_cons, List.length_map, List.length_cons, List.length_nil] at this ⊢
    omega

set_option maxRecDepth 100000 in
set_option maxHeartbeats 4000000 in
theorem labHighest_any (A : Option Addr) (c n : Nat) (ws : List Wd) (A2 : Option Addr) (c2 m : Nat) (os : List (Wd × Wd)) (A3 : Option Addr) (c3 p : Nat) (x : List Int) (A4 : Option Addr) (c4 q : Nat) (y : List Int) (w : World) (h : WdsAt w w.heap.size A ws) (hsz : ∀ i, (wNm ws i).size ≤ maxLen) (hn : n = ws.length) (h2 : OdsAt w w.heap.size A2 os) (hm : m = os.length) (h3 : IntAt w w.heap.size A3 x) (hp : p = x.length) (hp' : p ≤ 9223372036854775807) (h4 : IntAt w w.heap.size A4 y) (hq : q = y.length) (hq' : q ≤ 9223372036854775807) :
    Calls Tryz.prog 4 #[.agg #[.slice A n c, .slice A2 m c2], .slice A3 p c3, .slice A4 q c4] w (BoolPost true w) := by
  obtain ⟨w0, hw0⟩ : ∃ w0, w0 = w.alloc (.cells #[.slice A n c, .slice A2 m c2] 25) := ⟨_, rfl⟩
  obtain ⟨gw, hgw⟩ : ∃ g, g = w.heap.size := ⟨_, rfl⟩
  have hB : Blk w0 gw 25 #[.slice A n c, .slice A2 m c2] := by rw [hw0, hgw]; exact Blk.new _ _ _
  have hE0 : Ext w w0 := by rw [hw0]; exact (Ext.rfl' w).alloc (Nat.le_refl _) _
  have HGr := hide (labGreat_any A c n ws A2 c2 m os w0 (h.ext hE0) hsz hn (h2.ext hE0) hm)
  have HBd := hide (fun (w1 : World) (hE : Ext w w1) => build_any A c n ws A2 c2 m os w1 (h.ext hE) hsz hn (h2.ext hE) hm)
  have HLq := hide (fun (w1 : World) (hE : Ext w w1) (h64 : n ≤ 64) (h1000 : m ≤ 1000) (hok : okPs ws.length (prs ws os) = true) => refLeq_any A c n ws A2 c2 m os w1 (h.ext hE) hn h64 (h2.ext hE) hm h1000 hok)
  have HLv := hide (fun (w1 : World) (hE : Ext w w1) (AM : Option Addr) (cM : Nat) (h1 : p ≤ 1000000) (h64 : n ≤ 1000000) => levels_any AM cM n A3 c3 p x w1 (h3.ext hE) hp h1 h64)
  have HLw := hide (fun (w1 : World) (hE : Ext w w1) (AM : Option Addr) (cM : Nat) (h1 : q ≤ 1000000) (h64 : n ≤ 1000000) => levels_any AM cM n A4 c4 q y w1 (h4.ext hE) hq h1 h64)
  have HHi := hide (fun (w1 : World) (hE : Ext w w1) (g : Nat) (hL : LatAt w1 g ws os) (gd : GoodL ws os) => labHigh_any g ws os A3 c3 p x w1 hL gd (h3.ext hE) hp hp')
  have HTx := hide (fun (w1 : World) (hE : Ext w w1) (g : Nat) (hL : LatAt w1 g ws os) (gd : GoodL ws os) => labText_any g ws os A3 c3 p x w1 hL gd (h3.ext hE) hp hp')
  have HUn := hide (fun (w1 : World) (hE : Ext w w1) (g : Nat) (hL : LatAt w1 g ws os) (gd : GoodL ws os) => labUnder_any g ws os A3 c3 p x A4 c4 q y w1 hL gd (h3.ext hE) hp hp' (h4.ext hE) hq hq')
  have HUN := hide (fun (w1 : World) (hE : Ext w w1) => labUnder_nil A3 c3 p x A4 c4 q y w1 (h3.ext hE) hp hp' (h4.ext hE) hq hq')
  have HWD := hide h
  have HN := hide hn
  have HM := hide hm
  have HP := hide hp
  have HQ := hide hq
  have HBW := hide hB
  have HW0 := hide hw0
  have HGW := hide hgw
  have HE0 := hide hE0
  have w00 := hB.cell 0
  have w01 := hB.cell 1
  simp only [List.getElem?_toArray, List.getElem?_cons_zero, List.getElem?_cons_succ] at w00 w01
  clear h h2 h3 h4 hn hm hp hq hsz hB hw0 hgw hE0
  go_enter Tryz.func4, Tryz.ntmps4
  go_upto_region 1 with fail
  rw [← HW0.out, ← HGW.out]
  go_wp2_with fail
  refine HGr.out.mono ?_
  rintro e w1 ⟨r, rfl, hr, hE1⟩
  have HE1 := hide (HE0.out.trans' hE1)
  have HBW1 := hide (HBW.out.ext hE1)
  have HR := hide hr
  clear hr hE1 HE0 HBW w00 w01
  cases r with
  | true =>
    go_wp2_with fail
    refine (labLives_any w1).mono ?_
    rintro e w2 ⟨rfl, hE2⟩
    go_wp2_with fail
    go_ret
    exact ⟨rfl, HE1.out.trans' hE2⟩
  | false =>
    have hw0 := HR.out rfl
    have gd := good_of (show (wrongL ws os).1 = 0 by rw [hw0])
    have HGD := hide gd
    have n64 : n ≤ 64 := by have := gd.few; rw [HN.out]; omega
    have m1000 : m ≤ 1000 := by have := gd.fewO; rw [HM.out]; omega
    have HWZ := hide hw0
    clear hw0 gd HR
    by_cases hp1 : (100 : Int) < (p : Int)
    · go_wp2_with fail
      refine (labLives_any w1).mono ?_
      rintro e w2 ⟨rfl, hE2⟩
      go_wp2_with fail
      go_ret
      exact ⟨rfl, HE1.out.trans' hE2⟩
    by_cases hq1 : (100 : Int) < (q : Int)
    · go_wp2_with fail
      refine (labLives_any w1).mono ?_
      rintro e w2 ⟨rfl, hE2⟩
      go_wp2_with fail
      go_ret
      exact ⟨rfl, HE1.out.trans' hE2⟩
    have w10 := HBW1.out.cell 0
    have w11 := HBW1.out.cell 1
    simp only [List.getElem?_toArray, List.getElem?_cons_zero, List.getElem?_cons_succ] at w10 w11
    go_wp2_with fail
    refine (HBd.out w1 HE1.out).mono ?_
    rintro e w2 (⟨hw, _, _⟩ | ⟨_, g, rfl, hL, hE2⟩)
    · exact absurd (by rw [HWZ.out]) hw
    rw [show fltV (0, 0) = .agg #[.int .i64 0, .int .i64 0] from rfl]
    obtain ⟨w3, hw3⟩ : ∃ w3, w3 = w2.alloc (.cells #[.int .i64 0, .int .i64 0] 31) := ⟨_, rfl⟩
    have hE23 : Ext w2 w3 := by rw [hw3]; exact (Ext.rfl' w2).alloc (Nat.le_refl _) _
    have HE3 := hide ((HE1.out.trans' hE2).trans' hE23)
    have HL3 := hide (hL.ext hE23)
    have hBW3 := HBW1.out.ext (hE2.trans' hE23)
    have HBW3 := hide hBW3
    have w30 := hBW3.cell 0
    have w31 := hBW3.cell 1
    simp only [List.getElem?_toArray, List.getElem?_cons_zero, List.getElem?_cons_succ] at w30 w31
    have HW3 := hide hw3
    clear hw3 hE23 hE2 hL HE1 HBW1 w10 w11 hBW3 HBd
    go_upto_region 4 with fail
    rw [← HW3.out]
    go_wp2_with fail
    refine (HLq.out w3 HE3.out n64 m1000 (prs_ok HGD.out.found)).mono ?_
    rintro e w4 ⟨AM, cM, rfl, hA, hE4⟩
    obtain ⟨M, hM⟩ : ∃ M, M = leads ws.length (prs ws os) := ⟨_, rfl⟩
    have HSQ := hide (leads_sq ws.length (prs ws os))
    have HLE := hide (leads_length ws.length (prs ws os))
    have HMT := hide (show mat (leads ws.length (prs ws os)) = leqL ws os from rfl)
    rw [← hM] at hA HSQ HLE HMT
    have HA4 := hide hA
    have HE4 := hide (HE3.out.trans' hE4)
    have HL4 := hide (HL3.out.ext hE4)
    have HBW4 := hide (HBW3.out.ext hE4)
    clear hA hE4 hM HE3 HL3 HBW3 HLq w30 w31
    rw [← HN.out]
    go_wp2_with fail
    refine (HLv.out w4 HE4.out AM cM (by omega) (by omega)).mono ?_
    rintro e w5 ⟨Aa, ca, rfl, hNa, hE5⟩
    have HE5 := hide (HE4.out.trans' hE5)
    have HNa := hide hNa
    have hE45 := hE5
    clear hNa hE5
    go_wp2_with fail
    refine (HLw.out w5 HE5.out AM cM (by omega) (by omega)).mono ?_
    rintro e w6 ⟨Ab, cb, rfl, hNb, hE6⟩
    have hE46 := hE45.trans' hE6
    have HE6 := hide (HE5.out.trans' hE6)
    have HNa6 := hide (HNa.out.ext hE6)
    have HNb6 := hide hNb
    have HA6 := hide (HA4.out.below hE46 hE46.size)
    have HL6 := hide (HL4.out.ext hE46)
    have HBW6 := hide (HBW4.out.ext hE46)
    clear hNb hE6 hE45 hE46 HE5 HNa HA4 HL4 HBW4 HE4 HLv HLw
    obtain ⟨X, hX⟩ : ∃ X, X = lvl n x := ⟨_, rfl⟩
    obtain ⟨Y, hY⟩ : ∃ Y, Y = lvl n y := ⟨_, rfl⟩
    have HXl := hide (show X.length ≤ 1000000 by
      rw [hX]; unfold lvl
      have := List.length_filterMap_le (fun i => if hasI n i then some i.toNat else none) x
      rw [← HP.out] at this; omega)
    have HYl := hide (show Y.length ≤ 1000000 by
      rw [hY]; unfold lvl
      have := List.length_filterMap_le (fun i => if hasI n i then some i.toNat else none) y
      rw [← HQ.out] at this; omega)
    have HXlt := hide (show ∀ k ∈ X, k < n by rw [hX]; exact lvl_lt)
    have HYlt := hide (show ∀ k ∈ Y, k < n by rw [hY]; exact lvl_lt)
    rw [← hX] at HNa6 ⊢
    rw [← hY] at HNb6 ⊢
    obtain ⟨px, hpx⟩ : ∃ k, k = X.length := ⟨_, rfl⟩
    obtain ⟨py, hpy⟩ : ∃ k, k = Y.length := ⟨_, rfl⟩
    rw [← hpx] at HXl ⊢
    rw [← hpy] at HYl ⊢
    have HX := hide hX
    have HY := hide hY
    have HPX := hide hpx
    have HPY := hide hpy
    clear hX hY hpx hpy
    go_wp2_with fail
    refine (refHigh_any AM cM n M Aa ca px X w6 HA6.out HSQ.out (by rw [HLE.out, HN.out]) (by omega) HNa6.out HPX.out HXl.out HXlt.out).mono ?_
    rintro e w7 ⟨Ah, ch, rfl, hNh, hE7⟩
    obtain ⟨H, hH⟩ : ∃ H, H = LatM.highTo (mat M) X n := ⟨_, rfl⟩
    rw [← hH] at hNh ⊢
    have HHE := hide (show H = LatM.highTo (leqL ws os) (lvl ws.length x) ws.length by rw [hH, HMT.out, HX.out, HN.out])
    have HHlt := hide (show ∀ k ∈ H, k < n by rw [hH]; exact fun k hk => (LatM.highTo_lt hk).1)
    have hHl : H.length ≤ n := by rw [hH]; exact LatM.highTo_le _ _ _
    obtain ⟨z, hz⟩ : ∃ k, k = H.length := ⟨_, rfl⟩
    rw [← hz] at hHl ⊢
    obtain ⟨Z, hZ⟩ : ∃ Z, Z = H.map (wNm ws) := ⟨_, rfl⟩
    have HZ := hide hZ
    have HZL := hide (show Z.length = z by rw [hZ, List.length_map, hz])
    have HZN := hide hz
    have HE7 := hide (HE6.out.trans' hE7)
    have HNh := hide hNh
    have HNa7 := hide (HNa6.out.ext hE7)
    have HNb7 := hide (HNb6.out.ext hE7)
    have HA7 := hide (HA6.out.below hE7 hE7.size)
    have HL7 := hide (HL6.out.ext hE7)
    have HBW7 := hide (HBW6.out.ext hE7)
    have HWD7 := hide (HWD.out.ext HE7.out)
    clear hH hz hZ hE7 hNh HE6 HNa6 HNb6 HA6 HL6 HBW6 HWD
    go_wp2_with fail
    go_loopw [14, 13] (fun i t wr => ∃ k : Nat, k ≤ z ∧ i = .int .i64 k ∧ t = .string (joinS (Z.take k) ⟨#[43]⟩) ∧ Ext w7 wr) (fun i _ _ => z - (intOf i).toNat)
    case atStart => exact ⟨0, Nat.zero_le _, rfl, rfl, Ext.rfl' _⟩
    case round =>
      obtain ⟨k, hk, rfl, rfl, hEr⟩ := hrel
      have HEr := hide hEr
      by_cases hkz : k < z
      · have hkl : k < H.length := by rw [← HZN.out]; exact hkz
        have hkZ : k < Z.length := by rw [HZL.out]; exact hkz
        have hin := HHlt.out _ (List.getElem_mem hkl)
        obtain ⟨bh, oh, rfl, hbh, hch⟩ := HNh.out.cell (by omega)
        have q1 := (hEr.cell (p := ⟨bh, oh + k, none⟩) hbh).trans (hch k hkl)
        obtain ⟨bw, ow, rfl, hbw, hcw⟩ := HWD7.out.cell (by rw [← HN.out]; omega)
        have q2 := (hEr.cell (p := ⟨bw, ow + H[k] * 2, none⟩) hbw).trans (hcw H[k] (by rw [← HN.out]; exact hin)).1
        have q3 := (HBW7.out.ext hEr).cell 0
        simp only [List.getElem?_toArray, List.getElem?_cons_zero] at q3
        have hst : Z.take (k + 1) = Z.take k ++ [wNm ws H[k]] := by rw [List.take_succ_eq_append_getElem hkZ]; congr 1; simp only [HZ.out, List.getElem_map]
        obtain ⟨i, hi⟩ : ∃ i, i = H[k] := ⟨_, rfl⟩
        rw [← hi] at q1 q2 hin hst
        obtain ⟨nm, hnm⟩ : ∃ s, s = wNm ws i := ⟨_, rfl⟩
        rw [← hnm] at q2 hst
        have hs0 : k = 0 → joinS (Z.take (k + 1)) ⟨#[43]⟩ = nm := fun e => by rw [hst, e, List.take_zero, List.nil_append, joinS_one]
        have hs1 : k ≠ 0 → joinS (Z.take (k + 1)) ⟨#[43]⟩ = joinS (Z.take k) ⟨#[43]⟩ ++ ⟨#[43]⟩ ++ nm := fun e => by
          rw [hst, joinS_snoc]
          intro h0
          have := congrArg List.length h0
          rw [List.length_take, List.length_nil] at this
          omega
        have hnz : nm.size ≤ 32 := by
          have := name_short (HGD.out.named i (by rw [← HN.out]; exact hin))
          rw [← hnm, Array.length_toList] at this
          exact this
        have htz : (joinS (Z.take k) ⟨#[43]⟩).size ≤ 33 * k := by
          have := joinS_size (xs := Z.take k) (by
            intro s hs
            have hs' := List.mem_of_mem_take hs
            rw [HZ.out] at hs'
            obtain ⟨j, hj, rfl⟩ := List.mem_map.1 hs'
            have := name_short (HGD.out.named j (by rw [← HN.out]; exact HHlt.out j hj))
            rw [Array.length_toList] at this
            exact this)
          rw [List.length_take] at this
          omega
        have HS0 := hide hs0
        have HS1 := hide hs1
        have i0 : (0 : Int) ≤ (k : Int) := by omega
        have i1 : (k : Int) < (z : Int) := by omega
        have i2 : (0 : Int) ≤ (i : Int) := by omega
        have i3 : (i : Int) < (n : Int) := by omega
        clear hst hs0 hs1 hi hnm hch hcw hEr hin
        by_cases hk0 : k = 0
        · have HT := hide (HS0.out hk0)
          subst hk0
          rw [List.take_zero, joinS_nil]
          have q1' := q1
          rw [Nat.add_zero] at q1'
          have z0 : ¬ 9223372036854775807 < nm.size := by omega
          clear HS0 HS1 htz
          go_wp2_with fail
          go_quiet (fail)
          go_wp2_with fail
          go_roundw
          case rel => exact ⟨1, by omega, by go_num, by rw [HT.out, empty_app], below_drewN HEr.out _⟩
          case measure => simp [intOf]; omega
        · have HT := hide (HS1.out hk0)
          have k0 : (0 : Int) < (k : Int) := by omega
          obtain ⟨t, ht⟩ : ∃ t, t = joinS (Z.take k) ⟨#[43]⟩ := ⟨_, rfl⟩
          rw [← ht] at HT htz ⊢
          have z0 : ¬ 9223372036854775807 < t.size + 1 := by omega
          have z1 : ¬ 9223372036854775807 < t.size + 1 + nm.size := by omega
          clear HS0 HS1 ht
          go_wp2_with fail
          go_quiet (fail)
          go_wp2_with fail
          go_roundw
          case rel => exact ⟨k + 1, by omega, by go_num, by rw [HT.out], below_drewN HEr.out _⟩
          case measure => simp [intOf]; omega
      · obtain rfl : k = z := by omega
        have htx : joinS (Z.take k) ⟨#[43]⟩ = textS ws H := by rw [List.take_of_length_le (by rw [HZL.out]; exact Nat.le_refl _), HZ.out]; rfl
        rw [htx]
        have lat := HGD.out.lat
        have la := LatM.allJoin_lt lat (l := X) (by rw [← HN.out]; exact HXlt.out)
        have lb := LatM.allJoin_lt lat (l := Y) (by rw [← HN.out]; exact HYlt.out)
        have hla := fun j : Nat => least_any AM cM n M Aa ca px X (wr.drewN j) (HA7.out.below (below_drewN hEr j) (below_drewN hEr j).size) HSQ.out (by rw [HLE.out, HN.out]) n64 (HNa7.out.ext (below_drewN hEr j)) HPX.out (by have := HXl.out; omega) HXlt.out
        have hlb := fun j : Nat => least_any AM cM n M Ab cb py Y (wr.drewN j) (HA7.out.below (below_drewN hEr j) (below_drewN hEr j).size) HSQ.out (by rw [HLE.out, HN.out]) n64 (HNb7.out.ext (below_drewN hEr j)) HPY.out (by have := HYl.out; omega) HYlt.out
        rw [show LatM.leastL n (mat M) X = (LatM.allJoin ws.length (leqL ws os) X : Nat) by rw [HMT.out, HN.out]; exact LatM.leastL_eq lat (by rw [← HN.out]; exact HXlt.out)] at hla
        rw [show LatM.leastL n (mat M) Y = (LatM.allJoin ws.length (leqL ws os) Y : Nat) by rw [HMT.out, HN.out]; exact LatM.leastL_eq lat (by rw [← HN.out]; exact HYlt.out)] at hlb
        have hun := HUn.out
        obtain ⟨ta, hta⟩ : ∃ t, t = LatM.allJoin ws.length (leqL ws os) X := ⟨_, rfl⟩
        obtain ⟨tb, htb⟩ : ∃ t, t = LatM.allJoin ws.length (leqL ws os) Y := ⟨_, rfl⟩
        rw [← hta] at la hla
        rw [← htb] at lb hlb
        rw [show lvl ws.length x = X by rw [HX.out, HN.out], show lvl ws.length y = Y by rw [HY.out, HN.out], ← hta, ← htb] at hun
        rw [← HN.out] at la lb
        have hMr := HA7.out.form HSQ.out (by rw [HLE.out, ← HN.out]; omega)
        rw [HLE.out, ← HN.out, HMT.out] at hMr
        obtain ⟨bl, ol, rfl, hbl, hrows⟩ := hMr
        obtain ⟨bk, ok, ck, r1, hbk, r2⟩ := hrows ta la
        have e1 := (hEr.cell (p := ⟨bl, ol + ta, none⟩) hbl).trans r1
        have e2 := (hEr.cell (p := ⟨bk, ok + tb, none⟩) hbk).trans (r2 tb lb)
        obtain ⟨U, hU⟩ : ∃ U, U = leqL ws os ta tb := ⟨_, rfl⟩
        rw [← hU] at e2 hun
        have HUn2 := hide hun
        have HLA := hide (fun j : Nat => quiet_left (n := j) (hla j))
        have HLB := hide (fun j : Nat => quiet_left (n := j) (hlb j))
        have i0 : (0 : Int) ≤ (ta : Int) := by omega
        have i1 : (ta : Int) < (n : Int) := by omega
        have i2 : (0 : Int) ≤ (tb : Int) := by omega
        have i3 : (tb : Int) < (n : Int) := by omega
        obtain ⟨tx, htxx⟩ : ∃ t, t = textS ws H := ⟨_, rfl⟩
        have HTXX := hide htxx
        rw [← htxx]
        clear hrows r1 r2 hla hlb hta htb la lb hU hun htx lat HUn htxx hEr
        go_wp2_with fail
        go_quiet ((go_at_call 17; first | (with_reducible exact HLA.out _) | (with_reducible exact HLB.out _)))
        have hEq := below_drewN HEr.out nq
        have HLc := hide (HL7.out.ext hEq)
        have HEc := hide (HE7.out.trans' hEq)
        have HNhc := hide ((HNh.out.ext hEq).ints)
        generalize wr.drewN nq = wc at HLc HEc HNhc ⊢
        clear hEq e1 e2 HLA HLB HNh HEr HNa7 HNb7 HA7 hbl hbk HL7 HBW7 HWD7 HE7
        go_wp2_with fail
        refine (HHi.out wc HEc.out g HLc.out HGD.out).mono ?_
        rintro e w8 ⟨A8, c8, rfl, hN8, hE8⟩
        rw [← HHE.out] at hN8 ⊢
        rw [← HZN.out]
        have HE8 := hide (HEc.out.trans' hE8)
        have HN8 := hide hN8.ints
        have HNh8 := hide (HNhc.out.ext hE8)
        have HL8 := hide (HLc.out.ext hE8)
        clear hN8 hE8 HEc HNhc HLc
        go_wp2_with fail
        refine (same_any A8 c8 k (H.map fun (a : Nat) => (a : Int)) Ah ch k (H.map fun (a : Nat) => (a : Int)) w8 HN8.out (by rw [List.length_map]; exact HZN.out) (by omega) HNh8.out (by rw [List.length_map]; exact HZN.out) (by omega)).mono ?_
        rintro e w9 ⟨rfl, hE9⟩
        rw [show decide ((H.map fun (a : Nat) => (a : Int)) = (H.map fun (a : Nat) => (a : Int))) = true from decide_eq_true rfl]
        have HE9 := hide (HE8.out.trans' hE9)
        have HL9 := hide (HL8.out.ext hE9)
        clear hE9 HE8 HN8 HNh8 HL8
        go_wp2_with fail
        refine (HTx.out w9 HE9.out g HL9.out HGD.out).mono ?_
        rintro e w10 ⟨rfl, hE10⟩
        rw [← HHE.out, ← HTXX.out]
        have HE10 := hide (HE9.out.trans' hE10)
        have HL10 := hide (HL9.out.ext hE10)
        clear hE10 HE9 HL9
        go_wp2_with fail
        refine (HUn2.out w10 HE10.out g HL10.out HGD.out).mono ?_
        rintro e w' ⟨rfl, rfl⟩
        go_wp2_with fail
        refine (labHigh_nil A3 c3 p w10).mono ?_
        rintro e w11 ⟨rfl, hE11⟩
        have HE11 := hide (HE10.out.trans' hE11)
        clear hE11 HE10
        go_wp2_with fail
        refine (HUN.out w11 HE11.out).mono ?_
        rintro e w' ⟨rfl, rfl⟩
        go_wp2_with fail
        refine (labLives_any w11).mono ?_
        rintro e w12 ⟨rfl, hE12⟩
        have HE12 := hide (HE11.out.trans' hE12)
        clear hE12
        go_wp2_with fail
        go_ret
        exact ⟨rfl, HE12.out⟩
end Go.Proofs.YtpjlhpaenmfieaaGreat
