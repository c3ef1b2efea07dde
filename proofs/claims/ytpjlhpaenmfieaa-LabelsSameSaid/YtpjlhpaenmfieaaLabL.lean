/- labels: Parse, walked. -/
import Derived.Test.YtpjlhpaenmfieaaLabK
import Derived.Test.YtpjlhpaenmfieaaLabD
namespace Go.Proofs.Ytpjlhpaenmfieaa
open Go.RowKit

def ParsePost (ws : List Wd) (os : List (Wd × Wd)) (s : ByteArray) (w : World) (e : Ending) (w' : World) : Prop :=
  ∃ A c, e = .returned (.tuple #[.slice A (LatM.highTo (leqL ws os) (parseL ws s).1 ws.length).length c, fltV (parseL ws s).2]) ∧ NatAt w' w'.heap.size A (LatM.highTo (leqL ws os) (parseL ws s).1 ws.length) ∧ Ext w w'
theorem ParsePost.bad {ws : List Wd} {os : List (Wd × Wd)} {s : ByteArray} {x : Int × Int} {w w' : World} (h : parseL ws s = ([], x)) (hE : Ext w w') : ParsePost ws os s w (.returned (.tuple #[.slice none 0 0, fltV x])) w' := by
  unfold ParsePost
  rw [h, high_none]
  exact ⟨none, 0, rfl, Reads.none_, hE⟩

set_option maxRecDepth 100000 in
set_option maxHeartbeats 4000000 in
theorem labParse_any (g : Nat) (ws : List Wd) (os : List (Wd × Wd)) (s : ByteArray) (w : World) (h : LatAt w g ws os) (gd : GoodL ws os) (hs : s.size ≤ 1000000) :
    Calls Try.prog 41 #[.pointer (some ⟨g, 0, none⟩), .string s] w (ParsePost ws os s w) := by
  have hmx : s.size ≤ maxLen := by unfold maxLen; omega
  have HTk := hide (fun (w1 : World) (i : Nat) (hi : i < s.size) => take_in s i w1 hmx hi)
  have HTo := hide (fun (w1 : World) (i : Int) (hi : (s.size : Int) ≤ i) => take_out s i w1 hmx (.inr hi))
  have HRt := hide (fun (w1 : World) (t : ByteArray) (ht : t.size ≤ maxLen) => right_any t w1 ht)
  have HFnd := hide (fun (w1 : World) (hE : Ext w w1) (t : ByteArray) => latFind_any g ws os w1 (h.ext hE) (by have := gd.few; omega) t)
  have HHi := hide (fun (w1 : World) (hE : Ext w w1) (A : Option Addr) (c m : Nat) (x : List Int) (hx : IntAt w1 w1.heap.size A x) (hm : m = x.length) (hm' : m ≤ 9223372036854775807) => labHigh_any g ws os A c m x w1 (h.ext hE) gd hx hm hm')
  clear h gd
  go_enter Try.func41, Try.ntmps41
  go_wp2_with fail
  go_loopw [7, 6] (fun i o wr => ∃ (at_ k : Nat) (Ao : Option Addr) (co : Nat) (acc : List Nat), at_ ≤ s.size ∧ i = .int .i64 at_ ∧ o = .slice Ao k co ∧ Ext w wr ∧ Blk wr w.heap.size 29 #[.int .i64 0, .int .i64 0] ∧ wr.ownsRow (w.heap.size + 1) 3 1 (.slice Ao k co) k (natCells acc) ∧ k = acc.length ∧ Hid (PAt ws s at_ acc)) (fun i _ _ => s.size + 1 - (intOf i).toNat)
  case atStart => exact ⟨0, 0, none, 0, [], Nat.zero_le _, rfl, rfl, (Ext.rfl' w).alloc (Nat.le_refl _) _, Blk.new _ _ _, World.ownsRow_nil _ _ _ _, rfl, PAt.start ws s⟩
  case round =>
    obtain ⟨at_, k, Ao, co, acc, hat, rfl, rfl, hE, hB, hO, hk, HP⟩ := hrel
    have HE := hide hE
    have HB := hide hB
    have HO := hide hO
    have HK := hide hk
    have hkat : k ≤ at_ := by obtain ⟨_, _, _, _, h4⟩ := HP.out; omega
    have b0 := hB.cell 0
    have b1 := hB.cell 1
    have f0 := hB.free 0
    have f1 := hB.free 1
    simp only [List.getElem?_toArray, List.getElem?_cons_zero, List.getElem?_cons_succ] at b0 b1
    have hszB := hB.lt
    by_cases hlt : at_ < s.size
    · have hle := nameAt_le s at_ hat
      have hpr := pName_right s at_ hat
      have hps := pName_size s at_ hat
      have htk := HTk.out wr at_ hlt
      have hrt := HRt.out wr (pName s at_) (by rw [hps]; unfold maxLen; omega)
      rw [hpr] at hrt
      have hfd := HFnd.out wr hE (pName s at_)
      have hcase := findL_case (nms ws) (pName s at_)
      have hb9 : nameAt s at_ < 1 ∨ 32 < nameAt s at_ → pBad ws s at_ = some (9, (at_ : Int)) := fun h => by unfold pBad; rw [if_pos h]
      have hb17 : ¬ (nameAt s at_ < 1 ∨ 32 < nameAt s at_) → findL (nms ws) (pName s at_) = -1 → pBad ws s at_ = some (17, (at_ : Int)) := fun h1 h2 => by unfold pBad; rw [if_neg h1, h2, if_pos (by omega)]
      have hb4 : ¬ (nameAt s at_ < 1 ∨ 32 < nameAt s at_) → ∀ q : Nat, findL (nms ws) (pName s at_) = q → at_ + nameAt s at_ < s.size → byteN s (at_ + nameAt s at_) ≠ 43 → pBad ws s at_ = some (4, ((at_ + nameAt s at_ : Nat) : Int)) := fun h1 q h2 h3 h4 => by unfold pBad; rw [if_neg h1, h2, if_neg (by omega), if_pos ⟨h3, h4⟩]
      have hb0 : ¬ (nameAt s at_ < 1 ∨ 32 < nameAt s at_) → ∀ q : Nat, findL (nms ws) (pName s at_) = q → (at_ + nameAt s at_ < s.size → byteN s (at_ + nameAt s at_) = 43) → pBad ws s at_ = none ∧ pIdx ws s at_ = q := fun h1 q h2 h3 => ⟨by unfold pBad; rw [if_neg h1, h2, if_neg (by omega), if_neg (fun h => h.2 (h3 h.1))], by unfold pIdx; rw [h2]; rfl⟩
      unfold TakePost at htk
      rw [show s.extract at_ (at_ + nameAt s at_) = pName s at_ from rfl] at htk
      obtain ⟨n, hn⟩ : ∃ n, n = nameAt s at_ := ⟨_, rfl⟩
      have hnext := fun hb he => PAt.next HP.out hat (acc := acc) hb he
      have hdone := fun hb he => PAt.done HP.out hat (acc := acc) hb he
      rw [← hn] at hle htk hrt hb9 hb17 hb4 hb0 hnext hdone
      obtain ⟨nm, hnm⟩ : ∃ n, n = pName s at_ := ⟨_, rfl⟩
      rw [← hnm] at htk hrt hfd hcase hb17 hb4 hb0
      have HTK := hide htk
      have HFD := hide hfd
      have HB9 := hide hb9
      have HB17 := hide hb17
      have HB4 := hide hb4
      have HB0 := hide hb0
      have HNX := hide hnext
      have HDN := hide hdone
      by_cases hc1 : n < 1 ∨ 32 < n
      · rw [show decide (1 ≤ n ∧ n ≤ 32) = false from decide_eq_false (by omega)] at hrt
        have HRT := hide hrt
        have HX := hide (PAt.bad HP.out hat (HB9.out hc1))
        clear htk hrt hfd hcase hb9 hb17 hb4 hb0 hnext hdone hn hnm hpr hps hc1 hE hB hO hk HB9 HB17 HB4 HB0 HNX HDN
        go_wp2_with fail
        refine HTK.out.mono ?_
        rintro e w' ⟨rfl, rfl⟩
        go_wp2_with fail
        refine HRT.out.mono ?_
        rintro e w' ⟨rfl, rfl⟩
        go_wp2_with fail
        exact val_flt_ret (f := (9, (at_ : Int))) (g := w.heap.size) (v := .slice none 0 0) ((HB.out.set_ 0 _).set_ 1 _) rfl rfl rfl rfl (ParsePost.bad HX.out (ext_two HE.out _ _))
      · rw [show decide (1 ≤ n ∧ n ≤ 32) = true from decide_eq_true (by omega)] at hrt
        have HRT := hide hrt
        rcases hcase with ⟨e1, e2⟩ | ⟨q, hq, e1, e2⟩
        · have HX := hide (PAt.bad HP.out hat (HB17.out hc1 e1))
          rw [e2] at HFD
          clear htk hrt hfd hb9 hb17 hb4 hb0 hnext hdone hn hnm hpr hps hc1 hE hB hO hk HB9 HB17 HB4 HB0 HNX HDN e1 e2 b0 b1 f0 f1
          go_wp2_with fail
          refine HTK.out.mono ?_
          rintro e w' ⟨rfl, rfl⟩
          go_wp2_with fail
          refine HRT.out.mono ?_
          rintro e w' ⟨rfl, rfl⟩
          go_wp2_with fail
          refine HFD.out.mono ?_
          rintro e w2 ⟨rfl, hE2⟩
          have hB2 := HB.out.ext hE2
          have HB2 := hide hB2
          have HE2 := hide (HE.out.trans' hE2)
          have b0 := hB2.cell 0
          have b1 := hB2.cell 1
          have f0 := hB2.free 0
          have f1 := hB2.free 1
          simp only [List.getElem?_toArray, List.getElem?_cons_zero, List.getElem?_cons_succ] at b0 b1
          clear hB2 hE2
          go_wp2_with fail
          exact val_flt_ret (f := (17, (at_ : Int))) (g := w.heap.size) (v := .slice none 0 0) ((HB2.out.set_ 0 _).set_ 1 _) rfl rfl rfl rfl (ParsePost.bad HX.out (ext_two HE2.out _ _))
        · rw [e2] at HFD
          have hqn : q < ws.length := by rw [nms_length] at hq; exact hq
          have HNM := hide hnm
          by_cases hend : at_ + n < s.size
          · have hbn := byteN_eq s (at_ + n) hend
            have HH4 := hide (HB4.out hc1 q e1 hend)
            have HH0 := hide (fun h => HB0.out hc1 q e1 (fun _ => h))
            obtain ⟨bt, hbt⟩ : ∃ b, b = byteN s (at_ + n) := ⟨_, rfl⟩
            rw [← hbt] at HH4 HH0 hbn
            have hlt2 : ((at_ + n : Nat) : Int) < (s.size : Int) := by omega
            clear htk hrt hfd hb9 hb17 hb4 hb0 hnext hdone hn hnm hpr hps hc1 hE hB hO hk HB9 HB17 HB4 HB0 HDN e1 e2 b0 b1 f0 f1 hbt
            obtain ⟨en, hen⟩ : ∃ en, en = at_ + n := ⟨_, rfl⟩
            rw [← hen] at HTK HH4 HNX hend hlt2 hle
            rw [show s[at_ + n] = s[en] by simp only [hen]] at hbn
            have HEN := hide hen
            clear hen
            by_cases h43 : bt = 43
            · obtain ⟨g1, g2⟩ := HH0.out h43
              have HNX2 := hide (HNX.out g1 hend)
              rw [g2] at HNX2
              have hb43 : ((s[en].toNat : Int) != 43) = false := by rw [← hbn, h43]; rfl
              have hne : ((en : Int) == (s.size : Int)) = false := by rw [beq_eq_false_iff_ne]; omega
              clear g1 g2 HH0 HH4 HNX h43
              go_wp2_with fail
              refine HTK.out.mono ?_
              rintro e w' ⟨rfl, rfl⟩
              go_wp2_with fail
              refine HRT.out.mono ?_
              rintro e w' ⟨rfl, rfl⟩
              go_wp2_with fail
              refine HFD.out.mono ?_
              rintro e w2 ⟨rfl, hE2⟩
              have HB2 := hide (HB.out.ext hE2)
              have HE2 := hide (HE.out.trans' hE2)
              have HO2 := hide (own_ext HO.out hE2)
              have hsz2 := HB2.out.lt
              clear hE2
              go_wp2_with (at_builtin; refine wpList_append_Nat _ rfl _ _ rfl (w.heap.size + 1) _ k acc rfl w2.heap.size q _ rfl (HO2.out.alloc _) (reads_new _ _ _) (by omega) (by simp; omega) ?_)
              intro A3 c3 w3 hown3 hgrow3 _
              have HE3 := hide (grown_ext' (w := w) (wr := w2) (base := w.heap.size + 1) HE2.out ((Ext.rfl' w2).alloc (Nat.le_refl _) _) hgrow3 HO2.out (by omega))
              have HB3 := hide (grown_blk (HB2.out.alloc _) hgrow3 HO2.out (.inl (by omega)))
              have HO3 := hide hown3
              clear hown3 hgrow3
              go_wp2_with fail
              go_roundw
              case rel => exact ⟨en + 1, k + 1, A3, c3, acc ++ [q], by omega, by go_num, rfl, HE3.out, HB3.out, HO3.out, by rw [List.length_append, HK.out]; rfl, HNX2⟩
              case measure => have hen := HEN.out; simp [intOf]; omega
            · have HX := hide (PAt.bad HP.out hat (HH4.out h43))
              have hb43 : ((s[en].toNat : Int) != 43) = true := by rw [← hbn, bne_iff_ne]; omega
              clear HH0 HH4 HNX h43
              go_wp2_with fail
              refine HTK.out.mono ?_
              rintro e w' ⟨rfl, rfl⟩
              go_wp2_with fail
              refine HRT.out.mono ?_
              rintro e w' ⟨rfl, rfl⟩
              go_wp2_with fail
              refine HFD.out.mono ?_
              rintro e w2 ⟨rfl, hE2⟩
              have hB2 := HB.out.ext hE2
              have HB2 := hide hB2
              have HE2 := hide (HE.out.trans' hE2)
              have b0 := hB2.cell 0
              have b1 := hB2.cell 1
              have f0 := hB2.free 0
              have f1 := hB2.free 1
              simp only [List.getElem?_toArray, List.getElem?_cons_zero, List.getElem?_cons_succ] at b0 b1
              clear hB2 hE2
              go_wp2_with fail
              exact val_flt_ret (f := (4, (en : Int))) (g := w.heap.size) (v := .slice none 0 0) ((HB2.out.set_ 0 _).set_ 1 _) rfl rfl rfl rfl (ParsePost.bad HX.out (ext_two HE2.out _ _))
          · have hen : at_ + n = s.size := by omega
            obtain ⟨g1, g2⟩ := HB0.out hc1 q e1 (fun h => absurd h hend)
            have hdn := HDN.out g1 hen
            rw [g2] at hdn
            have hall : ∀ x ∈ acc ++ [q], x < ws.length := by
              obtain ⟨_, _, _, h3, _⟩ := HP.out
              intro x hx
              rcases List.mem_append.1 hx with hx | hx
              · exact h3 x hx
              · rw [List.mem_singleton.1 hx]; exact hqn
            have HDN2 := hide hdn
            have HALL := hide hall
            rw [hen] at HTK
            clear htk hrt hfd hb9 hb17 hb4 hb0 hnext hdone hn hnm hpr hps hc1 hE hB hO hk HB9 HB17 HB4 HB0 HDN HNX e1 e2 b0 b1 f0 f1 g1 g2 hdn hall hend
            go_wp2_with fail
            refine HTK.out.mono ?_
            rintro e w' ⟨rfl, rfl⟩
            go_wp2_with fail
            refine HRT.out.mono ?_
            rintro e w' ⟨rfl, rfl⟩
            go_wp2_with fail
            refine HFD.out.mono ?_
            rintro e w2 ⟨rfl, hE2⟩
            have HB2 := hide (HB.out.ext hE2)
            have HE2 := hide (HE.out.trans' hE2)
            have HO2 := hide (own_ext HO.out hE2)
            have hsz2 := HB2.out.lt
            clear hE2
            go_wp2_with (at_builtin; refine wpList_append_Nat _ rfl _ _ rfl (w.heap.size + 1) _ k acc rfl w2.heap.size q _ rfl (HO2.out.alloc _) (reads_new _ _ _) (by omega) (by simp; omega) ?_)
            intro A3 c3 w3 hown3 hgrow3 _
            have HE3 := hide (grown_ext' (w := w) (wr := w2) (base := w.heap.size + 1) HE2.out ((Ext.rfl' w2).alloc (Nat.le_refl _) _) hgrow3 HO2.out (by omega))
            have HB3 := hide (grown_blk (HB2.out.alloc _) hgrow3 HO2.out (.inl (by omega)))
            have hna : NatAt w3 w3.heap.size A3 (acc ++ [q]) := by
              unfold NatAt
              rw [show (acc ++ [q]).length = k + 1 by rw [List.length_append, HK.out]; rfl]
              exact Reads.of_own hown3
            have hhi := HHi.out w3 HE3.out A3 c3 (k + 1) ((acc ++ [q]).map fun (a : Nat) => (a : Int)) hna.ints (by rw [List.length_map, List.length_append, HK.out]; rfl) (by omega)
            rw [lvl_nat HALL.out] at hhi
            have HHI := hide hhi
            clear hown3 hgrow3 hna hhi
            go_wp2_with fail
            refine HHI.out.mono ?_
            rintro e w4 ⟨A4, c4, rfl, hN4, hE4⟩
            have hB4 := HB3.out.ext hE4
            have HB4 := hide hB4
            have HE4 := hide (HE3.out.trans' hE4)
            have HN4 := hide hN4
            have b0 := hB4.cell 0
            have b1 := hB4.cell 1
            have f0 := hB4.free 0
            have f1 := hB4.free 1
            simp only [List.getElem?_toArray, List.getElem?_cons_zero, List.getElem?_cons_succ] at b0 b1
            clear hB4 hE4 hN4
            go_wp2_with fail
            have e0 : (w4.setCell ⟨w.heap.size, 0, none⟩ (.int .i64 0)).setCell ⟨w.heap.size, 1, none⟩ (.int .i64 0) = w4 := by
              rw [setCell_same w4 HB4.out rfl, setCell_same w4 HB4.out rfl]
            rw [e0]
            exact val_flt_ret (f := (0, 0)) (g := w.heap.size) (v := .slice A4 (LatM.highTo (leqL ws os) (acc ++ [q]) ws.length).length c4) HB4.out rfl rfl rfl rfl ⟨A4, c4, by rw [HDN2.out], by rw [HDN2.out]; exact HN4.out, HE4.out⟩
    · obtain rfl : at_ = s.size := by omega
      have hn0 : nameAt s s.size = 0 := by have := nameAt_le s s.size (Nat.le_refl _); omega
      have HX := hide (PAt.bad HP.out (Nat.le_refl _) (show pBad ws s s.size = some (9, (s.size : Int)) by unfold pBad; rw [hn0, if_pos (.inl (by omega))]))
      have HT := hide (HTo.out wr (s.size : Int) (by omega))
      have HR := hide (HRt.out wr ⟨#[]⟩ (by unfold maxLen; simp [ByteArray.size]))
      rw [show rightB ⟨#[]⟩ = false from by decide +kernel] at HR
      clear hE hB hO hk hn0
      go_wp2_with fail
      refine HT.out.mono ?_
      rintro e w' ⟨rfl, rfl⟩
      go_wp2_with fail
      refine HR.out.mono ?_
      rintro e w' ⟨rfl, rfl⟩
      go_wp2_with fail
      exact val_flt_ret (f := (9, (s.size : Int))) (g := w.heap.size) (v := .slice none 0 0) ((HB.out.set_ 0 _).set_ 1 _) rfl rfl rfl rfl (ParsePost.bad HX.out (ext_two HE.out _ _))
theorem labParse_nil (s : ByteArray) (w : World) : Calls Try.prog 41 #[.pointer none, .string s] w (fun e w' => e = .returned (.tuple #[.slice none 0 0, fltV (1, 0)]) ∧ Ext w w') := by
  have hB : Blk (w.alloc (.cells #[.int .i64 0, .int .i64 0] 29)) w.heap.size 29 #[.int .i64 0, .int .i64 0] := Blk.new _ _ _
  have b0 := hB.cell 0
  have b1 := hB.cell 1
  have f0 := hB.free 0
  have f1 := hB.free 1
  simp only [List.getElem?_toArray, List.getElem?_cons_zero, List.getElem?_cons_succ] at b0 b1
  clear hB
  go_enter Try.func41, Try.ntmps41
  go_wp2_with fail
  exact val_flt_ret (f := (1, 0)) (g := w.heap.size) (v := .slice none 0 0) (Blk.new _ _ _) rfl rfl rfl rfl ⟨rfl, (Ext.rfl' w).alloc (Nat.le_refl _) _⟩
end Go.Proofs.Ytpjlhpaenmfieaa
