/- The law LatticeNone, walked. -/
import Derived.Test.YtpjlhpaenmfieaaLatX
namespace Go.Proofs.Ytpjlhpaenmfieaa
open Go.RowKit


set_option maxRecDepth 100000 in
set_option maxHeartbeats 1000000 in
theorem none_any (a b : Int) (s : ByteArray) (w : World) : Calls Try.prog 6 #[.int .i64 a, .int .i64 b, .string s] w (BoolPost true w) := by
  have HD := hide (dia_any w)
  have HB := hide dBuild_any
  have HJ := hide (fun (w : World) g (h : LatAt w g dWs dOs) => latJoin_any g dWs dOs w h (by decide))
  have HM := hide (fun (w : World) g (h : LatAt w g dWs dOs) => latMeet_any g dWs dOs w h (by decide))
  have HQ := hide (fun (w : World) g (h : LatAt w g dWs dOs) => latLeq_any g dWs dOs w h (prs_ok dGood.found))
  have HNm := hide (fun (w : World) g (h : LatAt w g dWs dOs) => latName_any g dWs dOs w h)
  have HS := hide (fun (w : World) g (h : LatAt w g dWs dOs) => latSees_any g dWs dOs w h (by decide) (prs_ok dGood.found))
  rw [show dWs.length = 4 from rfl] at HJ HM HS
  go_enter Try.func6, Try.ntmps6
  go_wp2_with fail
  refine (latFind_nil _ _).mono ?_
  rintro e w' ⟨rfl, rfl⟩
  go_wp2_with fail
  refine (latLen_nil _).mono ?_
  rintro e w' ⟨rfl, rfl⟩
  go_wp2_with fail
  refine (latName_nil _ _).mono ?_
  rintro e w' ⟨rfl, rfl⟩
  go_wp2_with fail
  refine (latNames_nil _).mono ?_
  rintro e w' ⟨rfl, rfl⟩
  go_wp2_with fail
  refine (latLeq_nil _ _ _).mono ?_
  rintro e w' ⟨rfl, rfl⟩
  go_wp2_with fail
  refine (latJoin_nil _ _ _).mono ?_
  rintro e w' ⟨rfl, rfl⟩
  go_wp2_with fail
  refine (latMeet_nil _ _ _).mono ?_
  rintro e w' ⟨rfl, rfl⟩
  go_wp2_with fail
  refine (latTop_nil _).mono ?_
  rintro e w' ⟨rfl, rfl⟩
  go_wp2_with fail
  refine (latBottom_nil _).mono ?_
  rintro e w' ⟨rfl, rfl⟩
  go_wp2_with fail
  refine (latSees_nil _ _).mono ?_
  rintro e w' ⟨rfl, rfl⟩
  go_wp2_with fail
  refine HD.out.mono ?_
  rintro e w1 ⟨gl, go, rfl, hl, ho, hE1⟩
  have HL := hide hl
  have HO := hide ho
  have HE1 := hide hE1
  clear hl ho hE1
  go_wp2_with fail
  refine (HB.out w1 gl go HL.out HO.out).mono ?_
  rintro e w2 ⟨g, rfl, hG, hE2⟩
  obtain ⟨w3, hw3⟩ : ∃ w3, w3 = w2.alloc (.cells #[.int .i64 0, .int .i64 0] 29) := ⟨_, rfl⟩
  have hE3 : Ext w2 w3 := by rw [hw3]; exact (Ext.rfl' w2).alloc (Nat.le_refl _) _
  have HG := hide (hG.ext hE3)
  have HE := hide ((HE1.out.trans' hE2).trans' hE3)
  have HW3 := hide hw3
  clear hG hE2 hE3 hw3 HL HO HE1 HD HB
  unfold fltV
  rcases hasI_cases 4 a with ⟨k, rfl, hk⟩ | ho
  · have hk' : (k : Int) < 4 := by omega
    have e1 : leqI dWs dOs (k : Int) (k : Int) = true := by
      unfold leqI
      rw [show dWs.length = 4 from rfl, hasI_nat hk, Int.toNat_natCast, dGood.lat.po.refl k hk]
      rfl
    have e2 : joinI 4 (leqL dWs dOs) (k : Int) (k : Int) = k := by
      rw [joinI_nat hk hk]; exact LatM.joinL_self dGood.lat.po hk
    have h1 := HQ.out _ _ HG.out (k : Int) (k : Int)
    have h2 := HJ.out _ _ HG.out (k : Int) (k : Int)
    rw [e1] at h1
    rw [e2] at h2
    have H1 := hide h1
    have H2 := hide h2
    clear h1 h2 e1 e2
    go_wp2_with fail
    rw [← HW3.out]
    go_wp2_with fail
    refine H1.out.mono ?_
    rintro e w' ⟨rfl, rfl⟩
    go_wp2_with fail
    refine H2.out.mono ?_
    rintro e w' ⟨rfl, rfl⟩
    go_wp2_with fail
    refine (latLives_any _).mono ?_
    rintro e w4 ⟨rfl, hE4⟩
    go_wp2_with fail
    go_ret
    exact ⟨rfl, HE.out.trans' hE4⟩
  · have e0 : hasI 4 a = false := hasI_out ho
    have e1 : leqI dWs dOs a b = false := by
      unfold leqI
      rw [show dWs.length = 4 from rfl, e0]
      rfl
    have e2 : leqI dWs dOs b a = false := by
      unfold leqI
      rw [show dWs.length = 4 from rfl, e0]
      simp
    have e3 : joinI 4 (leqL dWs dOs) a b = -1 := joinI_out (.inl e0)
    have e4 : joinI 4 (turnL (leqL dWs dOs)) b a = -1 := joinI_out (.inr e0)
    have e5 : nmI dWs a = ⟨#[]⟩ := by unfold nmI; rw [show dWs.length = 4 from rfl, e0]; rfl
    have e6 : seesTo dWs dOs a 4 = [] := by
      unfold seesTo
      rw [List.filter_eq_nil_iff]
      intro x _
      unfold leqI
      rw [show dWs.length = 4 from rfl, e0]
      simp
    have h1 := HQ.out _ _ HG.out a b
    have h2 := HQ.out _ _ HG.out b a
    have h3 := HJ.out _ _ HG.out a b
    have h4 := HM.out _ _ HG.out b a
    have h5 := HNm.out _ _ HG.out a
    have h6 := HS.out _ _ HG.out a
    rw [e1] at h1
    rw [e2] at h2
    rw [e3] at h3
    rw [e4] at h4
    rw [e5] at h5
    rw [e6] at h6
    have H1 := hide h1
    have H2 := hide h2
    have H3 := hide h3
    have H4 := hide h4
    have H5 := hide h5
    have H6 := hide h6
    clear h1 h2 h3 h4 h5 h6 e0 e1 e2 e3 e4 e5 e6 HQ HJ HM HNm HS
    by_cases ha : a < 0
    · have ha' : ¬ (0 ≤ a) := by omega
      go_wp2_with fail
      rw [← HW3.out]
      go_wp2_with fail
      refine H1.out.mono ?_
      rintro e w' ⟨rfl, rfl⟩
      go_wp2_with fail
      refine H2.out.mono ?_
      rintro e w' ⟨rfl, rfl⟩
      go_wp2_with fail
      refine H3.out.mono ?_
      rintro e w' ⟨rfl, rfl⟩
      go_wp2_with fail
      refine H4.out.mono ?_
      rintro e w' ⟨rfl, rfl⟩
      go_wp2_with fail
      refine H5.out.mono ?_
      rintro e w' ⟨rfl, rfl⟩
      go_wp2_with fail
      refine H6.out.mono ?_
      rintro e w4 ⟨A4, c4, rfl, _, hE4⟩
      go_wp2_with fail
      refine (latLives_any _).mono ?_
      rintro e w5 ⟨rfl, hE5⟩
      go_wp2_with fail
      go_ret
      exact ⟨rfl, (HE.out.trans' hE4).trans' hE5⟩
    · have ha' : 0 ≤ a := by omega
      have ha2 : ¬ (a < 4) := by omega
      go_wp2_with fail
      rw [← HW3.out]
      go_wp2_with fail
      refine H1.out.mono ?_
      rintro e w' ⟨rfl, rfl⟩
      go_wp2_with fail
      refine H2.out.mono ?_
      rintro e w' ⟨rfl, rfl⟩
      go_wp2_with fail
      refine H3.out.mono ?_
      rintro e w' ⟨rfl, rfl⟩
      go_wp2_with fail
      refine H4.out.mono ?_
      rintro e w' ⟨rfl, rfl⟩
      go_wp2_with fail
      refine H5.out.mono ?_
      rintro e w' ⟨rfl, rfl⟩
      go_wp2_with fail
      refine H6.out.mono ?_
      rintro e w4 ⟨A4, c4, rfl, _, hE4⟩
      go_wp2_with fail
      refine (latLives_any _).mono ?_
      rintro e w5 ⟨rfl, hE5⟩
      go_wp2_with fail
      go_ret
      exact ⟨rfl, (HE.out.trans' hE4).trans' hE5⟩
end Go.Proofs.Ytpjlhpaenmfieaa
