/- The law LatticeUndoes, walked. -/
import Derived.Test.YtpjlhpaenmfieaaLatX
namespace Go.Proofs.Ytpjlhpaenmfieaa
open Go.RowKit

theorem tmod_nat (x n : Nat) : (x : Int).tmod (n : Int) = ((x % n : Nat) : Int) := by
  rw [Int.tmod_eq_emod_of_nonneg (by omega)]; rfl

set_option maxRecDepth 100000 in
set_option maxHeartbeats 8000000 in
theorem undoes_any (A : Option Addr) (cc n : Nat) (ws : List Wd) (A2 : Option Addr) (c2 m : Nat) (os : List (Wd × Wd)) (x0 x1 x2 : Int) (w : World) (h : WdsAt w w.heap.size A ws) (hsz : ∀ i, (wNm ws i).size ≤ maxLen) (hn : n = ws.length) (h2 : OdsAt w w.heap.size A2 os) (hm : m = os.length) :
    Calls Try.prog 4 #[.slice A n cc, .slice A2 m c2, .agg #[.int .i64 x0, .int .i64 x1, .int .i64 x2]] w (BoolPost true w) := by
  obtain ⟨w0, hw0⟩ : ∃ w0, w0 = w.alloc (.cells #[.int .i64 x0, .int .i64 x1, .int .i64 x2] 33) := ⟨_, rfl⟩
  obtain ⟨gq, hgq⟩ : ∃ g, g = w.heap.size := ⟨_, rfl⟩
  have hq : Blk w0 gq 33 #[.int .i64 x0, .int .i64 x1, .int .i64 x2] := by rw [hw0, hgq]; exact Blk.new _ _ _
  have hE0 : Ext w w0 := by rw [hw0]; exact (Ext.rfl' w).alloc (Nat.le_refl _) _
  have HB := hide (build_any A cc n ws A2 c2 m os w0 (h.ext hE0) hsz hn (h2.ext hE0) hm)
  have HW0 := hide hw0
  have HGQ := hide hgq
  have HQ0 := hide hq
  have HE0 := hide hE0
  clear hw0 hgq hq hE0 h h2 hn hm hsz
  go_enter Try.func4, Try.ntmps4
  go_wp2_with fail
  rw [← HW0.out, ← HGQ.out]
  refine HB.out.mono ?_
  rintro e w2 (⟨hw, rfl, hE⟩ | ⟨hw, g, rfl, hL, hE⟩)
  · obtain ⟨f1, hf1⟩ : ∃ f1, f1 = (wrongL ws os).1 := ⟨_, rfl⟩
    obtain ⟨f2, hf2⟩ : ∃ f2, f2 = (wrongL ws os).2 := ⟨_, rfl⟩
    have e : fltV (wrongL ws os) = .agg #[.int .i64 f1, .int .i64 f2] := by rw [hf1, hf2]; rfl
    rw [e]
    rw [← hf1] at hw
    have h0 : (f1 == 0) = false := by simpa using hw
    obtain ⟨w3, hw3⟩ : ∃ w3, w3 = w2.alloc (.cells #[.int .i64 f1, .int .i64 f2] 29) := ⟨_, rfl⟩
    have hE3 : Ext w w3 := by rw [hw3]; exact (HE0.out.trans' hE).alloc ((HE0.out.trans' hE).size) _
    obtain ⟨gf, hgf⟩ : ∃ g, g = w2.heap.size := ⟨_, rfl⟩
    have hB : Blk w3 gf 29 #[.int .i64 f1, .int .i64 f2] := by rw [hw3, hgf]; exact Blk.new _ _ _
    have b0 := hB.cell 0
    have b1 := hB.cell 1
    simp only [List.getElem?_toArray, List.getElem?_cons_zero, List.getElem?_cons_succ] at b0 b1
    have HW3 := hide hw3
    have HGF := hide hgf
    have HE3 := hide hE3
    clear hf1 hf2 hw hw3 hE hgf e hB hE3 HB HW0 HGQ HQ0
    go_wp2_with fail
    rw [← HW3.out, ← HGF.out]
    go_wp2_with fail
    refine (latLives_any _).mono ?_
    rintro e w4 ⟨rfl, hE4⟩
    go_wp2_with fail
    go_ret
    exact ⟨rfl, HE3.out.trans' hE4⟩
  · rw [show fltV (0, 0) = .agg #[.int .i64 0, .int .i64 0] from rfl]
    have gd := good_of (show (wrongL ws os).1 = 0 by rw [hw])
    have h32 := gd.few
    have hok := prs_ok gd.found
    have lat := gd.lat
    have hn0 := lat.some
    obtain ⟨w3, hw3⟩ : ∃ w3, w3 = w2.alloc (.cells #[.int .i64 0, .int .i64 0] 29) := ⟨_, rfl⟩
    have hE23 : Ext w2 w3 := by rw [hw3]; exact (Ext.rfl' w2).alloc (Nat.le_refl _) _
    have hE3 := (HE0.out.trans' hE).trans' hE23
    obtain ⟨gf, hgf⟩ : ∃ g, g = w2.heap.size := ⟨_, rfl⟩
    have hB : Blk w3 gf 29 #[.int .i64 0, .int .i64 0] := by rw [hw3, hgf]; exact Blk.new _ _ _
    have b0 := hB.cell 0
    have b1 := hB.cell 1
    have hQ3 := HQ0.out.ext (hE.trans' hE23)
    have q0 := hQ3.cell 0
    have q1 := hQ3.cell 1
    have q2 := hQ3.cell 2
    simp only [List.getElem?_toArray, List.getElem?_cons_zero, List.getElem?_cons_succ] at b0 b1 q0 q1 q2
    have hL3 := hL.ext hE23
    have HLN := hide (latLen_any g ws os w3 hL3)
    have HJ0 := hide (fun (w4 : World) (hE4 : Ext w3 w4) (x y : Nat) (hx : x < ws.length) (hy : y < ws.length) => (by have := latJoin_any g ws os w4 (hL3.ext hE4) h32 x y; rw [joinI_nat hx hy, (LatM.jn_eq lat hx hy).1] at this; exact this : Calls Try.prog 15 #[.pointer (some ⟨g, 0, none⟩), .int .i64 x, .int .i64 y] w4 (fun e w' => e = .returned (.int .i64 ((LatM.jn ws.length (leqL ws os) x y : Nat) : Int)) ∧ w4 = w')))
    have HM0 := hide (fun (w4 : World) (hE4 : Ext w3 w4) (x y : Nat) (hx : x < ws.length) (hy : y < ws.length) => (by have := latMeet_any g ws os w4 (hL3.ext hE4) h32 x y; rw [joinI_nat hx hy, show LatM.joinL ws.length (turnL (leqL ws os)) x y = (LatM.jn ws.length (turnL (leqL ws os)) x y : Nat) from (LatM.jn_eq lat.turn hx hy).1] at this; exact this : Calls Try.prog 16 #[.pointer (some ⟨g, 0, none⟩), .int .i64 x, .int .i64 y] w4 (fun e w' => e = .returned (.int .i64 ((LatM.jn ws.length (turnL (leqL ws os)) x y : Nat) : Int)) ∧ w4 = w')))
    have HL0 := hide (fun (w4 : World) (hE4 : Ext w3 w4) (x y : Nat) (hx : x < ws.length) (hy : y < ws.length) => (by have := latLeq_any g ws os w4 (hL3.ext hE4) hok x y; unfold leqI at this; rw [hasI_nat hx, hasI_nat hy, Int.toNat_natCast, Int.toNat_natCast, Bool.true_and, Bool.true_and] at this; exact this : Calls Try.prog 17 #[.pointer (some ⟨g, 0, none⟩), .int .i64 x, .int .i64 y] w4 (fun e w' => e = .returned (.bool (leqL ws os x y)) ∧ w4 = w')))
    have HTop := hide (fun (w4 : World) (hE4 : Ext w3 w4) => latTop_any g ws os w4 (hL3.ext hE4) h32 lat)
    have HBot := hide (fun (w4 : World) (hE4 : Ext w3 w4) => latBottom_any g ws os w4 (hL3.ext hE4) h32 lat.turn)
    have HTU := hide (show turnL (leqL ws os) = (fun x y => leqL ws os y x) from rfl)
    have HLAT := hide lat
    have HW3 := hide hw3
    have HGF := hide hgf
    have HE3 := hide hE3
    obtain ⟨k, hk⟩ : ∃ k, k = ws.length := ⟨_, rfl⟩
    obtain ⟨L, hLL⟩ : ∃ L, L = leqL ws os := ⟨_, rfl⟩
    obtain ⟨T, hT⟩ : ∃ T, T = turnL (leqL ws os) := ⟨_, rfl⟩
    rw [← hT] at HM0 HBot HTU
    rw [← hLL] at HJ0 HL0 HTop HTU HLAT
    rw [← hk] at HJ0 HM0 HL0 HTop HBot HLN HLAT hn0
    clear hk hLL hT hw hw3 hE hgf hB hE3 hE23 hQ3 hL hL3 gd h32 hok lat HB HW0 HGQ HQ0
    have k1 : ¬ ((k : Int) < 1) := by omega
    have k0 : (0 : Int) < (k : Int) := by omega
    have hk0 : ((k : Int) == 0) = false := by rw [beq_eq_false_iff_ne]; omega
    go_wp2_with fail
    rw [← HW3.out, ← HGF.out]
    go_wp2_with fail
    refine HLN.out.mono ?_
    rintro e w' ⟨rfl, rfl⟩
    by_cases n0 : x0 < 0
    · go_wp2_with fail
      refine (latLives_any _).mono ?_
      rintro e w4 ⟨rfl, hE4⟩
      go_wp2_with fail
      go_ret
      exact ⟨rfl, HE3.out.trans' hE4⟩
    by_cases n1 : x1 < 0
    · go_wp2_with fail
      refine (latLives_any _).mono ?_
      rintro e w4 ⟨rfl, hE4⟩
      go_wp2_with fail
      go_ret
      exact ⟨rfl, HE3.out.trans' hE4⟩
    by_cases n2 : x2 < 0
    · go_wp2_with fail
      refine (latLives_any _).mono ?_
      rintro e w4 ⟨rfl, hE4⟩
      go_wp2_with fail
      go_ret
      exact ⟨rfl, HE3.out.trans' hE4⟩
    obtain ⟨y0, rfl⟩ := Int.eq_ofNat_of_zero_le (show 0 ≤ x0 by omega)
    obtain ⟨y1, rfl⟩ := Int.eq_ofNat_of_zero_le (show 0 ≤ x1 by omega)
    obtain ⟨y2, rfl⟩ := Int.eq_ofNat_of_zero_le (show 0 ≤ x2 by omega)
    obtain ⟨a, ha⟩ : ∃ v, v = y0 % k := ⟨_, rfl⟩
    have ra : (y0 : Int).tmod (k : Int) = (a : Int) := by rw [tmod_nat, ha]
    have la : a < k := by rw [ha]; exact Nat.mod_lt _ hn0
    obtain ⟨b, hb⟩ : ∃ v, v = y1 % k := ⟨_, rfl⟩
    have rb : (y1 : Int).tmod (k : Int) = (b : Int) := by rw [tmod_nat, hb]
    have lb : b < k := by rw [hb]; exact Nat.mod_lt _ hn0
    obtain ⟨c, hc⟩ : ∃ v, v = y2 % k := ⟨_, rfl⟩
    have rc : (y2 : Int).tmod (k : Int) = (c : Int) := by rw [tmod_nat, hc]
    have lc : c < k := by rw [hc]; exact Nat.mod_lt _ hn0
    clear ha hb hc
    go_wp2_with fail
    go_quiet (fail)
    have hE4 : Ext w3 (w3.drewN nq) := below_drewN (Ext.rfl' _) nq
    have HE4 := hide (HE3.out.trans' hE4)
    generalize w3.drewN nq = w4 at hE4 HE4 ⊢
    clear ra rb rc q0 q1 q2 b0 b1 HE3
    obtain ⟨u1, u2, u3, u4, u5, u6, u7, u8⟩ := LatM.undoes HLAT.out la lb lc
    have lat := HLAT.out
    have latT := lat.turn
    rw [← HTU.out] at u1 u2 u4 u6 u7 u8 latT
    have lj := (LatM.jn_eq lat la lb).2
    have lm := (LatM.jn_eq latT la lb).2
    have lbc := (LatM.jn_eq lat lb lc).2
    have lbc' := (LatM.jn_eq latT lb lc).2
    have lbot := LatM.topN_lt latT
    have ltop := LatM.topN_lt lat
    have as1 := LatM.jn_assoc lat la lb lc
    have as2 := LatM.jn_assoc latT la lb lc
    have cm1 := LatM.jn_comm k L b a
    have cm2 := LatM.jn_comm k T b a
    have s1 := HJ0.out w4 hE4 a b la lb
    have s2 := HM0.out w4 hE4 a b la lb
    have s3 := HJ0.out w4 hE4 b a lb la
    have s4 := HM0.out w4 hE4 b a lb la
    have s5 := HJ0.out w4 hE4 a _ la lm
    have s6 := HM0.out w4 hE4 a _ la lj
    have s7 := HJ0.out w4 hE4 _ c lj lc
    have s8 := HJ0.out w4 hE4 b c lb lc
    have s9 := HJ0.out w4 hE4 a _ la lbc
    have s10 := HM0.out w4 hE4 _ c lm lc
    have s11 := HM0.out w4 hE4 b c lb lc
    have s12 := HM0.out w4 hE4 a _ la lbc'
    have t1 := HL0.out w4 hE4 a b la lb
    have t2 := HL0.out w4 hE4 _ c lj lc
    have t3 := HL0.out w4 hE4 a c la lc
    have t4 := HL0.out w4 hE4 b c lb lc
    have t5 := HL0.out w4 hE4 c _ lc lm
    have t6 := HL0.out w4 hE4 c a lc la
    have t7 := HL0.out w4 hE4 c b lc lb
    have v2 := HJ0.out w4 hE4 _ a lbot la
    have v4 := HM0.out w4 hE4 _ a ltop la
    rw [cm1] at s3
    rw [cm2] at s4
    rw [u1] at s5
    rw [u2] at s6
    rw [← as1] at s9
    rw [← as2] at s12
    rw [u5] at t2
    rw [u6] at t5
    rw [u7] at v2
    rw [u8] at v4
    have v1 := HBot.out w4 hE4
    have v3 := HTop.out w4 hE4
    clear u1 u2 u5 u6 u7 u8 as1 as2 cm1 cm2 HTU
    obtain ⟨j, hj⟩ : ∃ v, v = LatM.jn k L a b := ⟨_, rfl⟩
    obtain ⟨mm, hmm⟩ : ∃ v, v = LatM.jn k T a b := ⟨_, rfl⟩
    rw [← hj] at s1 s3 s6 s7 s9 t2 u3
    rw [← hmm] at s2 s4 s5 s10 s12 t5 u4
    obtain ⟨bc, hbc⟩ : ∃ v, v = LatM.jn k L b c := ⟨_, rfl⟩
    obtain ⟨bd, hbd⟩ : ∃ v, v = LatM.jn k T b c := ⟨_, rfl⟩
    rw [← hbc] at s8 s9
    rw [← hbd] at s11 s12
    obtain ⟨d, hd⟩ : ∃ v, v = LatM.jn k L j c := ⟨_, rfl⟩
    obtain ⟨ee, hee⟩ : ∃ v, v = LatM.jn k T mm c := ⟨_, rfl⟩
    rw [← hd] at s7 s9
    rw [← hee] at s10 s12
    obtain ⟨bot, hbot⟩ : ∃ v, v = LatM.topN k T := ⟨_, rfl⟩
    obtain ⟨top, htop⟩ : ∃ v, v = LatM.topN k L := ⟨_, rfl⟩
    rw [← hbot] at v1 v2
    rw [← htop] at v3 v4
    obtain ⟨q, hq⟩ : ∃ v, v = L a b := ⟨_, rfl⟩
    obtain ⟨p1, hp1⟩ : ∃ v, v = L a c := ⟨_, rfl⟩
    obtain ⟨p2, hp2⟩ : ∃ v, v = L b c := ⟨_, rfl⟩
    obtain ⟨p3, hp3⟩ : ∃ v, v = L c a := ⟨_, rfl⟩
    obtain ⟨p4, hp4⟩ : ∃ v, v = L c b := ⟨_, rfl⟩
    rw [← hq] at t1 u3 u4
    rw [← hp1] at t2 t3
    rw [← hp2] at t2 t4
    rw [← hp3] at t5 t6
    rw [← hp4] at t5 t7
    have c1 : ((j : Int) == (b : Int)) = q := by rw [u3, Bool.eq_iff_iff]; simp; omega
    have c2 : ((mm : Int) == (a : Int)) = q := by rw [u4, Bool.eq_iff_iff]; simp; omega
    clear lj lm lbc lbc' lbot ltop lat latT hj hmm hbc hbd hd hee hbot htop hq hp1 hp2 hp3 hp4 u3 u4 HTop HBot HJ0 HM0 HL0 HLAT HLN la lb lc hE4
    have S1 := hide s1
    have S2 := hide s2
    have S3 := hide s3
    have S4 := hide s4
    have S5 := hide s5
    have S6 := hide s6
    have S7 := hide s7
    have S8 := hide s8
    have S9 := hide s9
    have S10 := hide s10
    have S11 := hide s11
    have S12 := hide s12
    have T1 := hide t1
    have T2 := hide t2
    have T3 := hide t3
    have T4 := hide t4
    have T5 := hide t5
    have T6 := hide t6
    have T7 := hide t7
    have V1 := hide v1
    have V2 := hide v2
    have V3 := hide v3
    have V4 := hide v4
    clear s1 s2 s3 s4 s5 s6 s7 s8 s9 s10 s11 s12 t1 t2 t3 t4 t5 t6 t7 v1 v2 v3 v4
    go_wp2_with fail
    refine S1.out.mono ?_
    rintro e w' ⟨rfl, rfl⟩
    go_wp2_with fail
    refine S2.out.mono ?_
    rintro e w' ⟨rfl, rfl⟩
    go_wp2_with fail
    refine S3.out.mono ?_
    rintro e w' ⟨rfl, rfl⟩
    go_wp2_with fail
    refine S4.out.mono ?_
    rintro e w' ⟨rfl, rfl⟩
    go_wp2_with fail
    refine S5.out.mono ?_
    rintro e w' ⟨rfl, rfl⟩
    go_wp2_with fail
    refine S6.out.mono ?_
    rintro e w' ⟨rfl, rfl⟩
    go_wp2_with fail
    refine S7.out.mono ?_
    rintro e w' ⟨rfl, rfl⟩
    go_wp2_with fail
    refine S8.out.mono ?_
    rintro e w' ⟨rfl, rfl⟩
    go_wp2_with fail
    refine S9.out.mono ?_
    rintro e w' ⟨rfl, rfl⟩
    go_wp2_with fail
    refine S10.out.mono ?_
    rintro e w' ⟨rfl, rfl⟩
    go_wp2_with fail
    refine S11.out.mono ?_
    rintro e w' ⟨rfl, rfl⟩
    go_wp2_with fail
    refine S12.out.mono ?_
    rintro e w' ⟨rfl, rfl⟩
    clear S1 S2 S3 S4 S5 S6 S7 S8 S9 S10 S11 S12
    cases p1 <;> cases p3
    · go_wp2_with fail
      refine T1.out.mono ?_
      rintro e w' ⟨rfl, rfl⟩
      go_wp2_with fail
      refine T1.out.mono ?_
      rintro e w' ⟨rfl, rfl⟩
      go_wp2_with fail
      refine T2.out.mono ?_
      rintro e w' ⟨rfl, rfl⟩
      go_wp2_with fail
      refine T3.out.mono ?_
      rintro e w' ⟨rfl, rfl⟩
      go_wp2_with fail
      refine T5.out.mono ?_
      rintro e w' ⟨rfl, rfl⟩
      go_wp2_with fail
      refine T6.out.mono ?_
      rintro e w' ⟨rfl, rfl⟩
      go_wp2_with fail
      refine V1.out.mono ?_
      rintro e w' ⟨rfl, rfl⟩
      go_wp2_with fail
      refine V2.out.mono ?_
      rintro e w' ⟨rfl, rfl⟩
      go_wp2_with fail
      refine V3.out.mono ?_
      rintro e w' ⟨rfl, rfl⟩
      go_wp2_with fail
      refine V4.out.mono ?_
      rintro e w' ⟨rfl, rfl⟩
      go_wp2_with fail
      refine (latLives_any _).mono ?_
      rintro e w5 ⟨rfl, hE5⟩
      go_wp2_with fail
      go_ret
      exact ⟨rfl, HE4.out.trans' hE5⟩
    · go_wp2_with fail
      refine T1.out.mono ?_
      rintro e w' ⟨rfl, rfl⟩
      go_wp2_with fail
      refine T1.out.mono ?_
      rintro e w' ⟨rfl, rfl⟩
      go_wp2_with fail
      refine T2.out.mono ?_
      rintro e w' ⟨rfl, rfl⟩
      go_wp2_with fail
      refine T3.out.mono ?_
      rintro e w' ⟨rfl, rfl⟩
      go_wp2_with fail
      refine T5.out.mono ?_
      rintro e w' ⟨rfl, rfl⟩
      go_wp2_with fail
      refine T6.out.mono ?_
      rintro e w' ⟨rfl, rfl⟩
      go_wp2_with fail
      refine T7.out.mono ?_
      rintro e w' ⟨rfl, rfl⟩
      go_wp2_with fail
      refine V1.out.mono ?_
      rintro e w' ⟨rfl, rfl⟩
      go_wp2_with fail
      refine V2.out.mono ?_
      rintro e w' ⟨rfl, rfl⟩
      go_wp2_with fail
      refine V3.out.mono ?_
      rintro e w' ⟨rfl, rfl⟩
      go_wp2_with fail
      refine V4.out.mono ?_
      rintro e w' ⟨rfl, rfl⟩
      go_wp2_with fail
      refine (latLives_any _).mono ?_
      rintro e w5 ⟨rfl, hE5⟩
      go_wp2_with fail
      go_ret
      exact ⟨rfl, HE4.out.trans' hE5⟩
    · go_wp2_with fail
      refine T1.out.mono ?_
      rintro e w' ⟨rfl, rfl⟩
      go_wp2_with fail
      refine T1.out.mono ?_
      rintro e w' ⟨rfl, rfl⟩
      go_wp2_with fail
      refine T2.out.mono ?_
      rintro e w' ⟨rfl, rfl⟩
      go_wp2_with fail
      refine T3.out.mono ?_
      rintro e w' ⟨rfl, rfl⟩
      go_wp2_with fail
      refine T4.out.mono ?_
      rintro e w' ⟨rfl, rfl⟩
      go_wp2_with fail
      refine T5.out.mono ?_
      rintro e w' ⟨rfl, rfl⟩
      go_wp2_with fail
      refine T6.out.mono ?_
      rintro e w' ⟨rfl, rfl⟩
      go_wp2_with fail
      refine V1.out.mono ?_
      rintro e w' ⟨rfl, rfl⟩
      go_wp2_with fail
      refine V2.out.mono ?_
      rintro e w' ⟨rfl, rfl⟩
      go_wp2_with fail
      refine V3.out.mono ?_
      rintro e w' ⟨rfl, rfl⟩
      go_wp2_with fail
      refine V4.out.mono ?_
      rintro e w' ⟨rfl, rfl⟩
      go_wp2_with fail
      refine (latLives_any _).mono ?_
      rintro e w5 ⟨rfl, hE5⟩
      go_wp2_with fail
      go_ret
      exact ⟨rfl, HE4.out.trans' hE5⟩
    · go_wp2_with fail
      refine T1.out.mono ?_
      rintro e w' ⟨rfl, rfl⟩
      go_wp2_with fail
      refine T1.out.mono ?_
      rintro e w' ⟨rfl, rfl⟩
      go_wp2_with fail
      refine T2.out.mono ?_
      rintro e w' ⟨rfl, rfl⟩
      go_wp2_with fail
      refine T3.out.mono ?_
      rintro e w' ⟨rfl, rfl⟩
      go_wp2_with fail
      refine T4.out.mono ?_
      rintro e w' ⟨rfl, rfl⟩
      go_wp2_with fail
      refine T5.out.mono ?_
      rintro e w' ⟨rfl, rfl⟩
      go_wp2_with fail
      refine T6.out.mono ?_
      rintro e w' ⟨rfl, rfl⟩
      go_wp2_with fail
      refine T7.out.mono ?_
      rintro e w' ⟨rfl, rfl⟩
      go_wp2_with fail
      refine V1.out.mono ?_
      rintro e w' ⟨rfl, rfl⟩
      go_wp2_with fail
      refine V2.out.mono ?_
      rintro e w' ⟨rfl, rfl⟩
      go_wp2_with fail
      refine V3.out.mono ?_
      rintro e w' ⟨rfl, rfl⟩
      go_wp2_with fail
      refine V4.out.mono ?_
      rintro e w' ⟨rfl, rfl⟩
      go_wp2_with fail
      refine (latLives_any _).mono ?_
      rintro e w5 ⟨rfl, hE5⟩
      go_wp2_with fail
      go_ret
      exact ⟨rfl, HE4.out.trans' hE5⟩
end Go.Proofs.Ytpjlhpaenmfieaa
