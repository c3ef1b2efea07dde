/- The document's Parse of layer 12. -/
import Derived.Test.YtpjlhpaenmfieaaGreatLabL
import Derived.Test.YtpjlhpaenmfieaaGreatLabI
import Derived.Test.YtpjlhpaenmfieaaGreatLatR
namespace Go.Proofs.YtpjlhpaenmfieaaGreat
open Go.RowKit

set_option maxRecDepth 100000 in
set_option maxHeartbeats 4000000 in
theorem refParse_any (A : Option Addr) (c n : Nat) (ws : List Wd) (os : List (Wd × Wd)) (A2 : Option Addr) (c2 : Nat) (M : List (List Bool)) (s : ByteArray) (w : World) (h : WdsAt w w.heap.size A ws) (hn : n = ws.length) (hl : n ≤ 64) (hM : MatAt w w.heap.size A2 M) (hsq : ∀ r ∈ M, r.length = M.length) (hMl : n = M.length) (hmat : mat M = leqL ws os) (hs : s.size ≤ 1000000) :
    Calls Tryz.prog 12 #[.slice A n c, .slice A2 n c2, .string s] w (ParsePost ws os s w) := by
  have hmx : s.size ≤ maxLen := by unfold maxLen; omega
  have HSg := hide (fun (w1 : World) (i : Nat) (hi : i ≤ s.size) => signs_any s i w1 hmx hi)
  have HFnd := hide (fun (w1 : World) (hE : Ext w w1) (t : ByteArray) => wFind_any A c n ws t w1 (h.ext hE) hn (by omega))
  have HHi := hide (fun (w1 : World) (hE : Ext w w1) (A4 : Option Addr) (c4 m : Nat) (l : List Nat) (hN : NatAt w1 w1.heap.size A4 l) (hm : m = l.length) (hm' : m ≤ 1000000) (hlt : ∀ k ∈ l, k < n) => refHigh_any A2 c2 n M A4 c4 m l w1 (hM.below hE hE.size) hsq hMl (by omega) hN hm hm' hlt)
  have HMAT := hide hmat
  have HN := hide hn
  clear h hn hl hM hsq hMl hmat
  go_enter Tryz.func12, Tryz.ntmps12
  go_wp2_with fail
  go_loopw [9, 8] (fun i o wr => ∃ (at_ k : Nat) (Ao : Option Addr) (co : Nat) (acc : List Nat), at_ ≤ s.size ∧ i = .int .i64 at_ ∧ o = .slice Ao k co ∧ Ext w wr ∧ Blk wr w.heap.size 31 #[.int .i64 0, .int .i64 0] ∧ wr.ownsRow (w.heap.size + 1) 3 1 (.slice Ao k co) k (natCells acc) ∧ k = acc.length ∧ Hid (PAt ws s at_ acc)) (fun i _ _ => s.size + 1 - (intOf i).toNat)
  case atStart => exact ⟨0, 0, none, 0, [], Nat.zero_le _, rfl, rfl, (Ext.rfl' w).alloc (Nat.le_refl _) _, Blk.new _ _ _, World.ownsRow_nil _ _ _ _, rfl, PAt.start ws s⟩
  case round =>
    obtain ⟨at_, k, Ao, co, acc, hat, rfl, rfl, hE, hB, hO, hk, HP⟩ := hrel
    have HE := hide hE
    have HB := hide hB
    have HO := hide hO
    have HK := hide hk
    have hkat : k ≤ at_ := by obtain ⟨_, _, _, _, h4⟩ := HP.out; omega
    have b0 := hB.cell 0
    have b1 := hB.cell 1
    have f0 := hB.free 0
    have f1 := hB.free 1
    simp only [List.getElem?_toArray, List.getElem?_cons_zero, List.getElem?_cons_succ] at b0 b1
    have hszB := hB.lt
    have hle := nameAt_le s at_ hat
    have hsg := HSg.out wr at_ hat
    have hfd := HFnd.out wr hE (pName s at_)
    have hcase := findL_case (nms ws) (pName s at_)
    have hb9 : nameAt s at_ < 1 ∨ 32 < nameAt s at_ → pBad ws s at_ = some (9, (at_ : Int)) := fun h => by unfold pBad; rw [if_pos h]
    have hb17 : ¬ (nameAt s at_ < 1 ∨ 32 < nameAt s at_) → findL (nms ws) (pName s at_) = -1 → pBad ws s at_ = some (17, (at_ : Int)) := fun h1 h2 => by unfold pBad; rw [if_neg h1, h2, if_pos (by omega)]
    have hb4 : ¬ (nameAt s at_ < 1 ∨ 32 < nameAt s at_) → ∀ q : Nat, findL (nms ws) (pName s at_) = q → at_ + nameAt s at_ < s.size → byteN s (at_ + nameAt s at_) ≠ 43 → pBad ws s at_ = some (4, ((at_ + nameAt s at_ : Nat) : Int)) := fun h1 q h2 h3 h4 => by unfold pBad; rw [if_neg h1, h2, if_neg (by omega), if_pos ⟨h3, h4⟩]
    have hb0 : ¬ (nameAt s at_ < 1 ∨ 32 < nameAt s at_) → ∀ q : Nat, findL (nms ws) (pName s at_) = q → (at_ + nameAt s at_ < s.size → byteN s (at_ + nameAt s at_) = 43) → pBad ws s at_ = none ∧ pIdx ws s at_ = q := fun h1 q h2 h3 => ⟨by unfold pBad; rw [if_neg h1, h2, if_neg (by omega), if_neg (fun h => h.2 (h3 h.1))], by unfold pIdx; rw [h2]; rfl⟩
    have hnm : pName s at_ = s.extract at_ (at_ + nameAt s at_) := rfl
    obtain ⟨n1, hn1⟩ : ∃ n, n = nameAt s at_ := ⟨_, rfl⟩
    have hnext := fun hb he => PAt.next HP.out hat (acc := acc) hb he
    have hdone := fun hb he => PAt.done HP.out hat (acc := acc) hb he
    rw [← hn1] at hle hsg hb9 hb17 hb4 hb0 hnext hdone hnm
    rw [hnm] at hfd hcase hb17 hb4 hb0
    have HSG := hide hsg
    have HFD := hide hfd
    have HB9 := hide hb9
    have HB17 := hide hb17
    have HB4 := hide hb4
    have HB0 := hide hb0
    have HNX := hide hnext
    have HDN := hide hdone
    by_cases hc1 : n1 < 1 ∨ 32 < n1
    · have HX := hide (PAt.bad HP.out hat (HB9.out hc1))
      clear hsg hfd hcase hb9 hb17 hb4 hb0 hnext hdone hn1 hnm hE hB hO hk HB9 HB17 HB4 HB0 HNX HDN
      by_cases hc2 : n1 < 1
      · have hc3 : (n1 : Int) < 1 := by omega
        clear hc1
        go_wp2_with fail
        refine HSG.out.mono ?_
        rintro e w' ⟨rfl, rfl⟩
        go_wp2_with fail
        exact val_flt_ret (f := (9, (at_ : Int))) (g := w.heap.size) (v := .slice none 0 0) ((HB.out.set_ 0 _).set_ 1 _) rfl rfl rfl rfl (ParsePost.bad HX.out (ext_two HE.out _ _))
      · have hc3 : ¬ (n1 : Int) < 1 := by omega
        have hc4 : (32 : Int) < (n1 : Int) := by omega
        clear hc1
        go_wp2_with fail
        refine HSG.out.mono ?_
        rintro e w' ⟨rfl, rfl⟩
        go_wp2_with fail
        exact val_flt_ret (f := (9, (at_ : Int))) (g := w.heap.size) (v := .slice none 0 0) ((HB.out.set_ 0 _).set_ 1 _) rfl rfl rfl rfl (ParsePost.bad HX.out (ext_two HE.out _ _))
    · have hc3 : ¬ (n1 : Int) < 1 := by omega
      have hc4 : ¬ (32 : Int) < (n1 : Int) := by omega
      have HC1 := hide hc1
      rcases hcase with ⟨e1, e2⟩ | ⟨q, hq, e1, e2⟩
      · have HX := hide (PAt.bad HP.out hat (HB17.out hc1 e1))
        rw [e1] at HFD
        clear hsg hfd hb9 hb17 hb4 hb0 hnext hdone hn1 hnm hc1 hE hB hO hk HB9 HB17 HB4 HB0 HNX HDN e1 e2
        go_wp2_with fail
        refine HSG.out.mono ?_
        rintro e w' ⟨rfl, rfl⟩
        go_wp2_with fail
        refine HFD.out.mono ?_
        rintro e w' ⟨rfl, rfl⟩
        go_wp2_with fail
        exact val_flt_ret (f := (17, (at_ : Int))) (g := w.heap.size) (v := .slice none 0 0) ((HB.out.set_ 0 _).set_ 1 _) rfl rfl rfl rfl (ParsePost.bad HX.out (ext_two HE.out _ _))
      · rw [e1] at HFD
        have hqn : q < ws.length := by rw [nms_length] at hq; exact hq
        have hq0 : ¬ (q : Int) < 0 := by omega
        by_cases hend : at_ + n1 < s.size
        · have hbn := byteN_eq s (at_ + n1) hend
          have HH4 := hide (HB4.out hc1 q e1 hend)
          have HH0 := hide (fun h => HB0.out hc1 q e1 (fun _ => h))
          obtain ⟨bt, hbt⟩ : ∃ b, b = byteN s (at_ + n1) := ⟨_, rfl⟩
          rw [← hbt] at HH4 HH0 hbn
          have hne : ((at_ : Int) + (n1 : Int) == (s.size : Int)) = false := by rw [beq_eq_false_iff_ne]; omega
          clear hsg hfd hb9 hb17 hb4 hb0 hnext hdone hn1 hnm hc1 hE hB hO hk HB9 HB17 HB4 HB0 HDN e1 e2 hbt
          by_cases h43 : bt = 43
          · obtain ⟨g1, g2⟩ := HH0.out h43
            have HNX2 := hide (HNX.out g1 hend)
            rw [g2] at HNX2
            have hb43 : ((s[at_ + n1].toNat : Int) != 43) = false := by rw [← hbn, h43]; rfl
            clear g1 g2 HH0 HH4 HNX h43
            go_wp2_with fail
            refine HSG.out.mono ?_
            rintro e w' ⟨rfl, rfl⟩
            go_wp2_with fail
            refine HFD.out.mono ?_
            rintro e w' ⟨rfl, rfl⟩
            go_wp2_with (at_builtin; refine wpList_append_Nat _ rfl _ _ rfl (w.heap.size + 1) _ k acc rfl wr.heap.size q _ rfl (HO.out.alloc _) (reads_new _ _ _) (by omega) (by simp; omega) ?_)
            intro A3 c3 w3 hown3 hgrow3 _
            have HE3 := hide (grown_ext' (w := w) (wr := wr) (base := w.heap.size + 1) HE.out ((Ext.rfl' wr).alloc (Nat.le_refl _) _) hgrow3 HO.out (by omega))
            have HB3 := hide (grown_blk (HB.out.alloc _) hgrow3 HO.out (.inl (by omega)))
            have HO3 := hide hown3
            clear hown3 hgrow3 b0 b1 f0 f1
            go_wp2_with fail
            go_roundw
            case rel => exact ⟨at_ + n1 + 1, k + 1, A3, c3, acc ++ [q], by omega, by go_num, rfl, HE3.out, HB3.out, HO3.out, by rw [List.length_append, HK.out]; rfl, HNX2⟩
            case measure => simp [intOf]; omega
          · have HX := hide (PAt.bad HP.out hat (HH4.out h43))
            have hb43 : ((s[at_ + n1].toNat : Int) != 43) = true := by rw [← hbn, bne_iff_ne]; omega
            clear HH0 HH4 HNX h43
            go_wp2_with fail
            refine HSG.out.mono ?_
            rintro e w' ⟨rfl, rfl⟩
            go_wp2_with fail
            refine HFD.out.mono ?_
            rintro e w' ⟨rfl, rfl⟩
            go_wp2_with (at_builtin; refine wpList_append_Nat _ rfl _ _ rfl (w.heap.size + 1) _ k acc rfl wr.heap.size q _ rfl (HO.out.alloc _) (reads_new _ _ _) (by omega) (by simp; omega) ?_)
            intro A3 c3 w3 hown3 hgrow3 _
            have HE3 := hide (grown_ext' (w := w) (wr := wr) (base := w.heap.size + 1) HE.out ((Ext.rfl' wr).alloc (Nat.le_refl _) _) hgrow3 HO.out (by omega))
            have hB3 := grown_blk (HB.out.alloc _) hgrow3 HO.out (.inl (by omega))
            have HB3 := hide hB3
            clear hown3 hgrow3 b0 b1 f0 f1
            have b0 := hB3.cell 0
            have b1 := hB3.cell 1
            have f0 := hB3.free 0
            have f1 := hB3.free 1
            simp only [List.getElem?_toArray, List.getElem?_cons_zero, List.getElem?_cons_succ] at b0 b1
            clear hB3
            go_wp2_with fail
            exact val_flt_ret (f := (4, ((at_ + n1 : Nat) : Int))) (g := w.heap.size) (v := .slice none 0 0) ((HB3.out.set_ 0 _).set_ 1 _) rfl rfl rfl rfl (ParsePost.bad HX.out (ext_two HE3.out _ _))
        · have hen : at_ + n1 = s.size := by omega
          obtain ⟨g1, g2⟩ := HB0.out hc1 q e1 (fun h => absurd h hend)
          have hdn := HDN.out g1 hen
          rw [g2] at hdn
          have hall : ∀ x ∈ acc ++ [q], x < n := by
            obtain ⟨_, _, _, h3, _⟩ := HP.out
            intro x hx
            rw [HN.out]
            rcases List.mem_append.1 hx with hx | hx
            · exact h3 x hx
            · rw [List.mem_singleton.1 hx]; exact hqn
          have HDN2 := hide hdn
          have HALL := hide hall
          have heq : ((at_ : Int) + (n1 : Int) == (s.size : Int)) = true := by rw [beq_iff_eq]; omega
          clear hsg hfd hb9 hb17 hb4 hb0 hnext hdone hn1 hnm hc1 hE hB hO hk HB9 HB17 HB4 HB0 HDN HNX e1 e2 g1 g2 hdn hall hend hen
          go_wp2_with fail
          refine HSG.out.mono ?_
          rintro e w' ⟨rfl, rfl⟩
          go_wp2_with fail
          refine HFD.out.mono ?_
          rintro e w' ⟨rfl, rfl⟩
          go_wp2_with (at_builtin; refine wpList_append_Nat _ rfl _ _ rfl (w.heap.size + 1) _ k acc rfl wr.heap.size q _ rfl (HO.out.alloc _) (reads_new _ _ _) (by omega) (by simp; omega) ?_)
          intro A3 c3 w3 hown3 hgrow3 _
          have HE3 := hide (grown_ext' (w := w) (wr := wr) (base := w.heap.size + 1) HE.out ((Ext.rfl' wr).alloc (Nat.le_refl _) _) hgrow3 HO.out (by omega))
          have HB3 := hide (grown_blk (HB.out.alloc _) hgrow3 HO.out (.inl (by omega)))
          have hna : NatAt w3 w3.heap.size A3 (acc ++ [q]) := by
            unfold NatAt
            rw [show (acc ++ [q]).length = k + 1 by rw [List.length_append, HK.out]; rfl]
            exact Reads.of_own hown3
          have hhi := HHi.out w3 HE3.out A3 c3 (k + 1) (acc ++ [q]) hna (by rw [List.length_append, HK.out]; rfl) (by omega) HALL.out
          rw [HMAT.out, show LatM.highTo (leqL ws os) (acc ++ [q]) n = LatM.highTo (leqL ws os) (acc ++ [q]) ws.length by rw [HN.out]] at hhi
          have HHI := hide hhi
          clear hown3 hgrow3 hna hhi b0 b1 f0 f1
          go_wp2_with fail
          refine HHI.out.mono ?_
          rintro e w4 ⟨A4, c4, rfl, hN4, hE4⟩
          have hB4 := HB3.out.ext hE4
          have HB4 := hide hB4
          have HE4 := hide (HE3.out.trans' hE4)
          have HN4 := hide hN4
          have b0 := hB4.cell 0
          have b1 := hB4.cell 1
          have f0 := hB4.free 0
          have f1 := hB4.free 1
          simp only [List.getElem?_toArray, List.getElem?_cons_zero, List.getElem?_cons_succ] at b0 b1
          clear hB4 hE4 hN4
          go_wp2_with fail
          have e0 : (w4.setCell ⟨w.heap.size, 0, none⟩ (.int .i64 0)).setCell ⟨w.heap.size, 1, none⟩ (.int .i64 0) = w4 := by
            rw [setCell_same w4 HB4.out rfl, setCell_same w4 HB4.out rfl]
          rw [e0]
          exact val_flt_ret (f := (0, 0)) (g := w.heap.size) (v := .slice A4 (LatM.highTo (leqL ws os) (acc ++ [q]) ws.length).length c4) HB4.out rfl rfl rfl rfl ⟨A4, c4, by rw [HDN2.out], by rw [HDN2.out]; exact HN4.out, HE4.out⟩
end Go.Proofs.YtpjlhpaenmfieaaGreat
