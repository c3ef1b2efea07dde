/- lattice: bounds. -/
import Derived.Test.YtpjlhpaenmfieaaGreatLatH
import Derived.Test.YtpjlhpaenmfieaaGreatLatF
import Derived.Test.YtpjlhpaenmfieaaGreatLatG
import Derived.Test.YtpjlhpaenmfieaaGreatLatGU
import Derived.Deep.CutBlock
import Derived.Laws.EntriesVeiled
namespace Go.Proofs.YtpjlhpaenmfieaaGreat
open Go.RowKit

def BoundsPost (n : Nat) (L : Nat → Nat → Bool) (w : World) (g gr : Nat) (rs : List Nat) (c0 c1 : Value) (e : Ending) (w' : World) : Prop :=
  e = .returned (.int .i64 (LatM.boundsL n L)) ∧ w.grownBy w' (some g) ∧ (LatM.boundsL n L < 0 → RelAt w' gr rs ∧ ∃ J M, LBlk w' g c0 c1 (.pointer (some ⟨gr, 0, none⟩)) J M ∧ ∀ x y, x < n → y < n → J x y = LatM.joinL n L x y ∧ M x y = LatM.joinL n (fun a b => L b a) x y)

theorem bounds_fail {n : Nat} {L : Nat → Nat → Bool} {a b : Nat} (hP : LatM.Po n L) (hb : b < n) (hab : a ≤ b) (h0 : ∀ j, j < b → LatM.lacks n L j = false) (h : LatM.joinL n L a b = -1 ∨ LatM.joinL n (fun x y => L y x) a b = -1) : LatM.boundsL n L = b := by
  refine LatM.boundsL_hit hb (LatM.lacks_iff.2 ⟨a, ?_, ?_⟩) h0
  · rcases Nat.lt_or_ge a b with h1 | h1
    · exact h1
    · obtain rfl : a = b := by omega
      have e1 := LatM.joinL_self hP hb
      have e2 := LatM.joinL_self hP.turn hb
      omega
  · rcases h with h | h
    · exact .inl (by omega)
    · exact .inr (by omega)
theorem BoundsPost.fail {n : Nat} {L : Nat → Nat → Bool} {w wr : World} {g gr b : Nat} {rs : List Nat} {c0 c1 : Value} (h : LatM.boundsL n L = b) (hg : w.grownBy wr (some g)) : BoundsPost n L w g gr rs c0 c1 (.returned (.int .i64 (b : Int))) wr :=
  ⟨ret_int h.symm, hg, fun h' => absurd h' (by omega)⟩

/-- What holds behind the inner loop's work. -/
def BndRel (w : World) (g gr : Nat) (rs : List Nat) (c0 c1 : Value) (n : Nat) (L : Nat → Nat → Bool) (b a Ba Bb : Nat) (wx : World) : Prop :=
  ∃ J M : Nat → Nat → Int, BMem w g gr rs c0 c1 J M wx ∧ Blk wx Ba 3 #[.int .i64 (a : Int)] ∧ Blk wx Bb 3 #[.int .i64 (b : Int)] ∧ DoneTo (LatM.joinL n L) J b (a + 1) ∧ DoneTo (LatM.joinL n fun x y => L y x) M b (a + 1) ∧ ∀ x, x < a + 1 → 0 ≤ LatM.joinL n L x b ∧ 0 ≤ LatM.joinL n (fun x y => L y x) x b

set_option maxRecDepth 100000 in
set_option maxHeartbeats 4000000 in
theorem bounds_any (g gr n cn : Nat) (An : Option Addr) (c1 : Value) (J0 M0 : Nat → Nat → Int) (rs : List Nat) (L : Nat → Nat → Bool) (w : World)
    (hl : LBlk w g (.slice An n cn) c1 (.pointer (some ⟨gr, 0, none⟩)) J0 M0) (hr : RelAt w gr rs) (hn : n ≤ 32) (hP : LatM.Po n L) (hL : ∀ a b : Nat, a < n → b < n → hasB rs a b = L a b) :
    Calls Tryz.prog 39 #[.pointer (some ⟨g, 0, none⟩)] w (BoundsPost n L w g gr rs (.slice An n cn) c1) := by
  have HL := hide hl
  have HR := hide hr
  have HP := hide hP
  have HM := hide hL
  have hlt := hl.lt
  have e0 := hl.cell0
  have hlt1 : g < w.heap.size + 1 := by omega
  have hlt2 : g < w.heap.size + 1 + 1 := by omega
  clear hl hr hP hL
  go_enter Tryz.func39, Tryz.ntmps39
  go_wp2_with fail
  have hB0 : BMem w g gr rs (.slice An n cn) c1 J0 M0 (((w.alloc (.cells #[.pointer (some ⟨g, 0, none⟩)] 28)).alloc (.cells #[.func (.func 79) #[] #[.pointer (some ⟨w.heap.size, 0, none⟩)]] 98)).alloc (.cells #[.func (.func 81) #[] #[.pointer (some ⟨w.heap.size, 0, none⟩)]] 98)) := by
    have hE : Ext w (((w.alloc (.cells #[.pointer (some ⟨g, 0, none⟩)] 28)).alloc (.cells #[.func (.func 79) #[] #[.pointer (some ⟨w.heap.size, 0, none⟩)]] 98)).alloc (.cells #[.func (.func 81) #[] #[.pointer (some ⟨w.heap.size, 0, none⟩)]] 98)) :=
      (((Ext.rfl' w).alloc (Nat.le_refl _) _).alloc (by simp) _).alloc (by simp; omega) _
    exact ⟨grown_of_ext hE _, ((Blk.new w _ _).alloc _).alloc _, (Blk.new_eq _ _ _ (by simp)).alloc _, Blk.new_eq _ _ _ (by simp), HL.out.ext hE, HR.out.ext hE, hlt⟩
  have HB0 := hide hB0
  clear hB0 e0 hlt1 hlt2
  go_loopw [16] (fun i wr => ∃ (b : Nat) (J M : Nat → Nat → Int), b ≤ n ∧ i = .int .i64 b ∧ BMem w g gr rs (.slice An n cn) c1 J M wr ∧ w.heap.size + 3 ≤ wr.heap.size ∧ Hid (DoneTo (LatM.joinL n L) J b 0 ∧ DoneTo (LatM.joinL n fun x y => L y x) M b 0 ∧ ∀ j, j < b → LatM.lacks n L j = false)) (fun i _ => n - (intOf i).toNat)
  case atStart => exact ⟨0, J0, M0, Nat.zero_le _, rfl, HB0.out, by simp, ⟨fun x y h => absurd h (by omega), fun x y h => absurd h (by omega), fun j hj => absurd hj (by omega)⟩⟩
  case round =>
    obtain ⟨b, J, M, hb, rfl, hB, hsz, HD⟩ := hrel
    have HB := hide hB
    clear hB HB0
    by_cases hbn : b < n
    · obtain ⟨wo, rfl⟩ : ∃ wo : World, wo = wr := ⟨_, rfl⟩
      go_wp2_with fail
      have hB1 := (HB.out.alloc (.cells #[.int .i64 (b : Int)] 3)).alloc (.cells #[.int .i64 0] 3)
      have hb1 := (Blk.new wo 3 #[.int .i64 (b : Int)]).alloc (.cells #[.int .i64 0] 3)
      have ha1 := Blk.new_eq (wo.alloc (.cells #[.int .i64 (b : Int)] 3)) 3 #[.int .i64 ((0 : Nat) : Int)] (g := wo.heap.size + 1) (by simp)
      have HB1 := hide hB1
      have Hb1 := hide hb1
      have Ha1 := hide ha1
      clear hB1 hb1 ha1
      go_loopw [6] (fun p wi => ∃ (a Ba : Nat) (J M : Nat → Nat → Int), a ≤ b + 1 ∧ p = .pointer (some ⟨Ba, 0, none⟩) ∧ wo.heap.size < Ba ∧ Blk wi Ba 3 #[.int .i64 (a : Int)] ∧ Blk wi wo.heap.size 3 #[.int .i64 (b : Int)] ∧ BMem w g gr rs (.slice An n cn) c1 J M wi ∧ Hid (DoneTo (LatM.joinL n L) J b a ∧ DoneTo (LatM.joinL n fun x y => L y x) M b a ∧ ∀ x, x < a → 0 ≤ LatM.joinL n L x b ∧ 0 ≤ LatM.joinL n (fun x y => L y x) x b)) (fun p wi => match p with | .pointer (some q) => b + 1 - (intOf ((wi.cell? q).getD undef)).toNat | _ => 0)
      case atStart => exact ⟨0, wo.heap.size + 1, J, M, by omega, rfl, by omega, Ha1.out, Hb1.out, HB1.out, HD.out.1, HD.out.2.1, fun x hx => absurd hx (by omega)⟩
      case round =>
        clear HB1 Hb1 Ha1 HB
        obtain ⟨a, Ba, J', M', ha, rfl, hBa, hA, hBb, hB, HD2⟩ := hrel
        have HB := hide hB
        have HA := hide hA
        have HBb := hide hBb
        have x0 := hB.t.cell 0
        have x1 := hB.d.cell 0
        have x2 := hB.u.cell 0
        have x2 : wr.cell? ⟨w.heap.size + 1 + 1, 0, none⟩ = _ := x2
        have x3 := hA.cell 0
        have x4 := hBb.cell 0
        simp only [List.getElem?_toArray, List.getElem?_cons_zero] at x0 x1 x2 x3 x4
        have l0 := hB.t.lt
        have l1 := hB.d.lt
        have l2 : w.heap.size + 1 + 1 < wr.heap.size := hB.u.lt
        have l3 := hA.lt
        have l4 := hBb.lt
        have HN := hide hB.l.cell0
        clear hB hA hBb
        by_cases hab : a ≤ b
        · have x5 := HB.out.l.cell2
          have hbd := bestDown_any g n cn An (.pointer (some ⟨w.heap.size + 1, 0, none⟩)) (.pointer (some ⟨Ba, 0, none⟩)) (.pointer (some ⟨wo.heap.size, 0, none⟩)) (.pointer (some ⟨w.heap.size, 0, none⟩)) (fun c => L a c && L b c) L wr HN.out (by omega) HP.out
            (fun c hc => by have := inDown_any (w.heap.size + 1) Ba wo.heap.size w.heap.size g gr rs wr a b c x1 x3 x4 x0 x5 HB.out.r; rwa [HM.out a c (by omega) hc, HM.out b c hbn hc] at this)
            (fun c d hc hd => by have := down_any w.heap.size g gr rs wr c d x0 x5 HB.out.r; rwa [HM.out c d hc hd] at this)
          have hbu := bestUp_any g n cn An (.pointer (some ⟨w.heap.size + 1 + 1, 0, none⟩)) (.pointer (some ⟨Ba, 0, none⟩)) (.pointer (some ⟨wo.heap.size, 0, none⟩)) (.pointer (some ⟨w.heap.size, 0, none⟩)) (fun c => L c a && L c b) (fun x y => L y x) wr HN.out (by omega) HP.out.turn
            (fun c hc => by have := inUp_any (w.heap.size + 1 + 1) Ba wo.heap.size w.heap.size g gr rs wr a b c x2 x3 x4 x0 x5 HB.out.r; rwa [HM.out c a hc (by omega), HM.out c b hc hbn] at this)
            (fun c d hc hd => by have := up_any w.heap.size g gr rs wr c d x0 x5 HB.out.r; rwa [HM.out d c hd hc] at this)
          have hjc := LatM.bestL_cases n (fun c => L a c && L b c) L
          have hmc := LatM.bestL_cases n (fun c => L c a && L c b) (fun x y => L y x)
          obtain ⟨j, hj⟩ : ∃ j, j = LatM.bestL n (fun c => L a c && L b c) L := ⟨_, rfl⟩
          obtain ⟨m, hm⟩ : ∃ m, m = LatM.bestL n (fun c => L c a && L c b) (fun x y => L y x) := ⟨_, rfl⟩
          rw [← hj] at hbd hjc
          rw [← hm] at hbu hmc
          have HBD := hide hbd
          have HBU := hide hbu
          have HJ : Hid (j = LatM.joinL n L a b) := hide hj
          have HMM : Hid (m = LatM.joinL n (fun x y => L y x) a b) := hide hm
          have HJC := hide hjc
          have HMC := hide hmc
          clear hbd hbu hj hm hjc hmc x5
          go_upto_block 3 with fail
          go_cut [] (fun wx => BndRel w g gr rs (.slice An n cn) c1 n L b a Ba wo.heap.size wx)
          case first =>
            go_wp2_with fail
            refine HBD.out.mono ?_
            rintro e w' ⟨rfl, rfl⟩
            go_wp2_with fail
            refine HBU.out.mono ?_
            rintro e w' ⟨rfl, rfl⟩
            rcases HJC.out with rfl | ⟨cj, _, rfl, _⟩
            · go_wp2_with fail
              go_ret
              exact BoundsPost.fail (bounds_fail HP.out hbn hab HD.out.2.2 (.inl HJ.out.symm)) HB.out.grown
            · have hcj : ((cj : Int) == -1) = false := by rw [beq_eq_false_iff_ne]; omega
              rcases HMC.out with rfl | ⟨cm, _, rfl, _⟩
              · go_wp2_with fail
                go_ret
                exact BoundsPost.fail (bounds_fail HP.out hbn hab HD.out.2.2 (.inr HMM.out.symm)) HB.out.grown
              · have hcm : ((cm : Int) == -1) = false := by rw [beq_eq_false_iff_ne]; omega
                go_upto_region 13 with fail
                go_cut [] (fun wx => ∃ J2 : Nat → Nat → Int, BMem w g gr rs (.slice An n cn) c1 J2 M' wx ∧ Blk wx Ba 3 #[.int .i64 (a : Int)] ∧ Blk wx wo.heap.size 3 #[.int .i64 (b : Int)] ∧ Hid (DoneTo (LatM.joinL n L) J2 b (a + 1)))
                case first =>
                  have y0 := HB.out.l.cellJ (show a < 32 by omega) (show b < 32 by omega)
                  have y1 := HB.out.l.cellJ (show b < 32 by omega) (show a < 32 by omega)
                  have z0 := HB.out.l.free (3 + a * 32 + b)
                  have z1 := HB.out.l.free (3 + b * 32 + a)
                  have i0 : (0 : Int) ≤ (a : Int) := by omega
                  have i1 : (a : Int) < 32 := by omega
                  have i2 : (0 : Int) ≤ (b : Int) := by omega
                  have i3 : (b : Int) < 32 := by omega
                  have y2 := (HB.out.l.setJ (show a < 32 by omega) (show b < 32 by omega) (cj : Int)).cellJ (show b < 32 by omega) (show a < 32 by omega)
                  have y3 := (HB.out.l.setJ (show b < 32 by omega) (show a < 32 by omega) (cj : Int)).cellJ (show a < 32 by omega) (show b < 32 by omega)
                  have hD := DoneTo.step HD2.out.1 (LatM.joinL_comm n L a b)
                  rw [← HJ.out] at hD
                  have HDD := hide hD
                  clear hD
                  go_region
                  all_goals
                    go_wp2_with fail
                    go_meet
                    first
                      | exact ⟨_, ((HB.out.setJ (show a < 32 by omega) (show b < 32 by omega) (cj : Int)).setJ (show b < 32 by omega) (show a < 32 by omega) (cj : Int)).drew, ((HA.out.far (show Ba ≠ g by omega) _).far (show Ba ≠ g by omega) _), ((HBb.out.far (show wo.heap.size ≠ g by omega) _).far (show wo.heap.size ≠ g by omega) _), HDD.out.1⟩
                      | exact ⟨_, ((HB.out.setJ (show b < 32 by omega) (show a < 32 by omega) (cj : Int)).setJ (show a < 32 by omega) (show b < 32 by omega) (cj : Int)).drew, ((HA.out.far (show Ba ≠ g by omega) _).far (show Ba ≠ g by omega) _), ((HBb.out.far (show wo.heap.size ≠ g by omega) _).far (show wo.heap.size ≠ g by omega) _), HDD.out.2⟩
                case rest =>
                  obtain ⟨J2, hB2, hA2, hBb2, HDJ⟩ := hcut
                  clear x0 x1 x2 x3 x4 HB HBb HBD HBU HN l0 l1 l2 l3 l4
                  obtain ⟨wd, rfl⟩ : ∃ wd : World, wd = wc := ⟨_, rfl⟩
                  have HB2 := hide hB2
                  have HA2 := hide hA2
                  have HBb2 := hide hBb2
                  have x0 := hB2.t.cell 0
                  have x3 := hA2.cell 0
                  have x4 := hBb2.cell 0
                  simp only [List.getElem?_toArray, List.getElem?_cons_zero] at x0 x3 x4
                  clear hB2 hA2 hBb2
                  have y0 := HB2.out.l.cellM (show a < 32 by omega) (show b < 32 by omega)
                  have y1 := HB2.out.l.cellM (show b < 32 by omega) (show a < 32 by omega)
                  have z0 := HB2.out.l.free (1027 + a * 32 + b)
                  have z1 := HB2.out.l.free (1027 + b * 32 + a)
                  have i0 : (0 : Int) ≤ (a : Int) := by omega
                  have i1 : (a : Int) < 32 := by omega
                  have i2 : (0 : Int) ≤ (b : Int) := by omega
                  have i3 : (b : Int) < 32 := by omega
                  have y2 := (HB2.out.l.setM (show a < 32 by omega) (show b < 32 by omega) (cm : Int)).cellM (show b < 32 by omega) (show a < 32 by omega)
                  have y3 := (HB2.out.l.setM (show b < 32 by omega) (show a < 32 by omega) (cm : Int)).cellM (show a < 32 by omega) (show b < 32 by omega)
                  have hD := DoneTo.step HD2.out.2.1 (LatM.joinL_comm n (fun x y => L y x) a b)
                  rw [← HMM.out] at hD
                  have HDD := hide hD
                  clear hD
                  have HXX := hide (below_step (P := fun x => 0 ≤ LatM.joinL n L x b ∧ 0 ≤ LatM.joinL n (fun x y => L y x) x b) HD2.out.2.2 ⟨by rw [← HJ.out]; omega, by rw [← HMM.out]; omega⟩)
                  go_wp2_with fail
                  go_region
                  all_goals
                    go_wp2_with fail
                    go_meet
                    first
                      | exact ⟨_, _, ((HB2.out.setM (show a < 32 by omega) (show b < 32 by omega) (cm : Int)).setM (show b < 32 by omega) (show a < 32 by omega) (cm : Int)).drew, ((HA2.out.far (show Ba ≠ g by omega) _).far (show Ba ≠ g by omega) _), ((HBb2.out.far (show wo.heap.size ≠ g by omega) _).far (show wo.heap.size ≠ g by omega) _), HDJ.out, HDD.out.1, HXX.out⟩
                      | exact ⟨_, _, ((HB2.out.setM (show b < 32 by omega) (show a < 32 by omega) (cm : Int)).setM (show a < 32 by omega) (show b < 32 by omega) (cm : Int)).drew, ((HA2.out.far (show Ba ≠ g by omega) _).far (show Ba ≠ g by omega) _), ((HBb2.out.far (show wo.heap.size ≠ g by omega) _).far (show wo.heap.size ≠ g by omega) _), HDJ.out, HDD.out.2, HXX.out⟩
          case rest =>
            obtain ⟨J2, M2, hB3, hA3, hBb3, hDJ, hDM, hXX⟩ := hcut
            have HDJ := hide hDJ
            have HDM := hide hDM
            have HXX := hide hXX
            clear x0 x1 x2 x3 x4 HB HBb HBD HBU HN l0 l1 l2 l3 l4 hDJ hDM hXX
            have HB3 := hide hB3
            have HBb3 := hide hBb3
            have x3 := hA3.cell 0
            simp only [List.getElem?_toArray, List.getElem?_cons_zero] at x3
            have l3 := hA3.lt
            clear hB3 hA3 hBb3
            go_wp2_with fail
            go_roundw
            case rel =>
              refine ⟨a + 1, wc.heap.size, J2, M2, by omega, rfl, by omega, ?_, HBb3.out.alloc _, HB3.out.alloc _, HDJ.out, HDM.out, HXX.out⟩
              rw [show (((a + 1 : Nat)) : Int) = (a : Int) + 1 from by omega]
              exact Blk.new _ _ _
            case measure =>
              have h3 := HA.out.cell 0
              simp only [List.getElem?_toArray, List.getElem?_cons_zero] at h3
              simp [intOf, h3]
              omega
        · obtain rfl : a = b + 1 := by omega
          have HDN := hide (And.intro (DoneTo.next HD2.out.1) (And.intro (DoneTo.next HD2.out.2.1) (show LatM.lacks n L b = false by
            rw [← Bool.not_eq_true, LatM.lacks_iff]
            rintro ⟨x, hx, h | h⟩
            · have := (HD2.out.2.2 x (by omega)).1; omega
            · have := (HD2.out.2.2 x (by omega)).2; omega)))
          have hsz2 : w.heap.size + 3 ≤ wr.heap.size := by omega
          go_wp2_with fail
          go_roundw
          case rel => exact ⟨b + 1, J', M', by omega, by go_num, HB.out, hsz2, HDN.out.1, HDN.out.2.1, below_step HD.out.2.2 HDN.out.2.2⟩
          case measure => simp [intOf]; omega
    · obtain rfl : b = n := by omega
      have hb0 := LatM.boundsL_miss HD.out.2.2
      have HF := hide hb0
      clear hb0
      go_wp2_with fail
      go_ret
      exact ⟨ret_int HF.out.symm, HB.out.grown, fun _ => ⟨HB.out.r, J, M, HB.out.l, fun x y hx hy => ⟨HD.out.1 x y (.inl ⟨hx, hy⟩), HD.out.2.1 x y (.inl ⟨hx, hy⟩)⟩⟩⟩
end Go.Proofs.YtpjlhpaenmfieaaGreat
