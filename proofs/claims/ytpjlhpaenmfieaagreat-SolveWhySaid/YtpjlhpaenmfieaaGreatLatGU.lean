/- lattice: best, of the closures of up. -/
import Derived.Test.YtpjlhpaenmfieaaGreatLatPl
import Derived.Test.YtpjlhpaenmfieaaGreatRelAll
namespace Go.Proofs.YtpjlhpaenmfieaaGreat
open Go.RowKit

set_option maxRecDepth 100000 in
set_option maxHeartbeats 2000000 in
theorem bestUp_any (g n cn : Nat) (An : Option Addr) (p1 p2 p3 p4 : Value) (I : Nat → Bool) (M : Nat → Nat → Bool) (w : World) (hc : w.cell? ⟨g, 0, none⟩ = some (.slice An n cn)) (hn : n ≤ 1000) (hM : LatM.Po n M)
    (hin : ∀ c : Nat, c < n → Calls Tryz.prog 84 #[.int .i64 (c : Int), p1, p2, p3] w (fun e w' => e = .returned (.bool (I c)) ∧ w = w'))
    (hbe : ∀ a b : Nat, a < n → b < n → Calls Tryz.prog 81 #[.int .i64 (a : Int), .int .i64 (b : Int), p4] w (fun e w' => e = .returned (.bool (M a b)) ∧ w = w')) :
    Calls Tryz.prog 82 #[.pointer (some ⟨g, 0, none⟩), .func (.func 84) #[] #[p1, p2, p3], .func (.func 81) #[] #[p4]] w (fun e w' => e = .returned (.int .i64 (LatM.bestL n I M)) ∧ w = w') := by
  have HIN := hide hin
  have HBE := hide hbe
  have HM := hide hM
  clear hin hbe hM
  go_enter Tryz.func82, Tryz.ntmps82
  go_wp2_with fail
  go_loopw [15, 7] (fun i o wr => ∃ (k : Nat) (r : Int), k ≤ n ∧ i = .int .i64 k ∧ o = .int .i64 r ∧ w = wr ∧ Hid (r = LatM.pass I M k)) (fun i _ _ => n - (intOf i).toNat)
  case atStart => exact ⟨0, -1, Nat.zero_le _, rfl, rfl, rfl, rfl⟩
  case round =>
    obtain ⟨k, r, hk, rfl, rfl, rfl, HR⟩ := hrel
    by_cases hlt : k < n
    · have hI := HIN.out k hlt
      obtain ⟨v, hv⟩ : ∃ v, v = I k := ⟨_, rfl⟩
      rw [← hv] at hI
      have HI := hide hI
      have HV := hide hv
      clear hI hv
      cases v with
      | false =>
        have HP := hide (show r = LatM.pass I M (k + 1) by rw [LatM.pass, if_neg (by rw [← HV.out]; simp)]; exact HR.out)
        go_wp2_with fail
        refine HI.out.mono ?_
        rintro e w' ⟨rfl, rfl⟩
        go_wp2_with fail
        go_roundw
        case rel => exact ⟨k + 1, r, by omega, by go_num, rfl, by trivial, HP⟩
        case measure => simp [intOf]; omega
      | true =>
        rcases LatM.pass_in (I := I) (M := M) k with h1 | ⟨c, hc', h1, _⟩
        · obtain rfl : r = -1 := HR.out.trans h1
          have HP := hide (show (k : Int) = LatM.pass I M (k + 1) by rw [LatM.pass, if_pos ⟨HV.out.symm, .inl h1⟩])
          clear h1 HR
          go_wp2_with fail
          refine HI.out.mono ?_
          rintro e w' ⟨rfl, rfl⟩
          go_wp2_with fail
          go_roundw
          case rel => exact ⟨k + 1, k, by omega, by go_num, rfl, by trivial, HP⟩
          case measure => simp [intOf]; omega
        · obtain rfl : r = (c : Int) := HR.out.trans h1
          have hB := HBE.out k c hlt (by omega)
          obtain ⟨u, hu⟩ : ∃ u, u = M k c := ⟨_, rfl⟩
          rw [← hu] at hB
          have HB := hide hB
          have HU := hide hu
          have HC := hide h1
          clear hB hu h1
          cases u with
          | true =>
            have HP := hide (show (k : Int) = LatM.pass I M (k + 1) by rw [LatM.pass, if_pos ⟨HV.out.symm, .inr (by rw [HC.out, Int.toNat_natCast]; exact HU.out.symm)⟩])
            go_wp2_with fail
            refine HI.out.mono ?_
            rintro e w' ⟨rfl, rfl⟩
            go_wp2_with fail
            refine HB.out.mono ?_
            rintro e w' ⟨rfl, rfl⟩
            go_wp2_with fail
            go_roundw
            case rel => exact ⟨k + 1, k, by omega, by go_num, rfl, by trivial, HP⟩
            case measure => simp [intOf]; omega
          | false =>
            have HP := hide (show (c : Int) = LatM.pass I M (k + 1) by rw [LatM.pass, if_neg (by rw [HC.out, Int.toNat_natCast, ← HU.out]; simp)]; exact HC.out.symm)
            go_wp2_with fail
            refine HI.out.mono ?_
            rintro e w' ⟨rfl, rfl⟩
            go_wp2_with fail
            refine HB.out.mono ?_
            rintro e w' ⟨rfl, rfl⟩
            go_wp2_with fail
            go_roundw
            case rel => exact ⟨k + 1, c, by omega, by go_num, rfl, by trivial, HP⟩
            case measure => simp [intOf]; omega
    · obtain rfl : k = n := by omega
      have HPE := hide (LatM.pass_end HM.out r HR.out)
      have hcs := LatM.pass_in (I := I) (M := M) k
      rw [← HR.out] at hcs
      clear HR
      rcases hcs with h1 | ⟨c, _, h1, _⟩
      · subst h1
        have HQ := hide (HPE.out.1 rfl)
        clear HPE
        go_wp2_with fail
        go_loopw [38] (fun i wr => ∃ d : Nat, d ≤ k ∧ i = .int .i64 d ∧ w = wr) (fun i _ => k - (intOf i).toNat)
        case atStart => exact ⟨0, Nat.zero_le _, rfl, rfl⟩
        case round =>
          obtain ⟨d, hd, rfl, rfl⟩ := hrel
          by_cases hdl : d < k
          · go_wp2_with fail
            go_roundw
            case rel => exact ⟨d + 1, by omega, by go_num, by trivial⟩
            case measure => simp [intOf]; omega
          · obtain rfl : d = k := by omega
            go_wp2_with fail
            go_ret
            exact ⟨ret_int HQ.out.symm, rfl⟩
      · subst h1
        obtain ⟨hcn, _⟩ := HPE.out.2.1 c rfl
        have h3 := HPE.out.2.2.1
        have h4 := HPE.out.2.2.2
        rw [Int.toNat_natCast] at h3 h4
        have HC3 := hide h3
        have HC4 := hide h4
        have HBC := hide (fun d hd => HBE.out c d hcn hd)
        clear HPE h3 h4 HBE
        go_wp2_with fail
        go_loopw [38] (fun i wr => ∃ d : Nat, d ≤ k ∧ i = .int .i64 d ∧ w = wr ∧ Hid (∀ x, x < d → I x = true → M c x = true)) (fun i _ => k - (intOf i).toNat)
        case atStart => exact ⟨0, Nat.zero_le _, rfl, rfl, fun x hx => absurd hx (by omega)⟩
        case round =>
          obtain ⟨d, hd, rfl, rfl, HD⟩ := hrel
          by_cases hdl : d < k
          · have hI := HIN.out d hdl
            obtain ⟨v, hv⟩ : ∃ v, v = I d := ⟨_, rfl⟩
            rw [← hv] at hI
            have HI := hide hI
            have HV := hide hv
            clear hI hv
            cases v with
            | false =>
              have HD2 := hide (below_step (P := fun x => I x = true → M c x = true) HD.out (by rw [← HV.out]; intro h; cases h))
              clear HD
              go_wp2_with fail
              refine HI.out.mono ?_
              rintro e w' ⟨rfl, rfl⟩
              go_wp2_with fail
              go_roundw
              case rel => exact ⟨d + 1, by omega, by go_num, by trivial, HD2⟩
              case measure => simp [intOf]; omega
            | true =>
              have hB := HBC.out d hdl
              obtain ⟨u, hu⟩ : ∃ u, u = M c d := ⟨_, rfl⟩
              rw [← hu] at hB
              have HB := hide hB
              have HU := hide hu
              clear hB hu
              cases u with
              | true =>
                have HD2 := hide (below_step (P := fun x => I x = true → M c x = true) HD.out (fun _ => HU.out.symm))
                clear HD
                go_wp2_with fail
                refine HI.out.mono ?_
                rintro e w' ⟨rfl, rfl⟩
                go_wp2_with fail
                refine HB.out.mono ?_
                rintro e w' ⟨rfl, rfl⟩
                go_wp2_with fail
                go_roundw
                case rel => exact ⟨d + 1, by omega, by go_num, by trivial, HD2⟩
                case measure => simp [intOf]; omega
              | false =>
                have HQ := hide (HC4.out d hdl HV.out.symm HU.out.symm)
                clear HD
                go_wp2_with fail
                refine HI.out.mono ?_
                rintro e w' ⟨rfl, rfl⟩
                go_wp2_with fail
                refine HB.out.mono ?_
                rintro e w' ⟨rfl, rfl⟩
                go_wp2_with fail
                go_ret
                exact ⟨ret_int HQ.out.symm, rfl⟩
          · obtain rfl : d = k := by omega
            have HQ := hide (HC3.out HD.out)
            clear HD
            go_wp2_with fail
            go_ret
            exact ⟨ret_int HQ.out.symm, rfl⟩

end Go.Proofs.YtpjlhpaenmfieaaGreat
