/- pinned.Unsafe. -/
import Derived.Test.YtkfepdejiedjbaaPinE
namespace Go.Proofs.Ytkfepdejiedjbaa
open Go.RowKit
attribute [local irreducible] pin_wide pin_zero pin_control pin_bidi pin_format pin_separator ref_Wide ref_Zero ref_bidi ref_format

theorem SetAt.far2 {w : World} {A : Option Addr} {n : Nat} {o : List (Int × Int)} {f : Int → Bool} (h : SetAt w A n o f) {p : Addr} (hF : 0 < n → ∃ g, A = some ⟨g, 0, none⟩ ∧ p.block < g) (u : Value) : SetAt (w.setCell p u) A n o f := by
  refine ⟨h.len, h.most, ⟨h.at_.1, fun hn => ?_⟩, h.canon, h.mem⟩
  obtain ⟨ad, e, hb, hc⟩ := h.at_.2 hn
  obtain ⟨g, e2, hg⟩ := hF (by rw [h.len]; exact hn)
  rw [e] at e2
  injection e2 with e2
  refine ⟨ad, e, by simpa using hb, fun j u' hu => (World.cell?_setCell_other w p _ u (fun e' => ?_)).trans (hc j u' hu)⟩
  rw [e', block_of_add, e2] at hg
  exact absurd hg (Nat.lt_irrefl _)

/-- What the loop of Unsafe keeps: the set so far, and the three tables. -/
def UnsRel (w : World) (g1 gt g2 g3 g4 n2 n3 n4 : Nat) (k : Nat) (wr : World) : Prop :=
  ∃ A n c o, Ext w wr ∧ w.heap.size ≤ g1 ∧ Blk wr w.heap.size 49 #[.slice none 0 0] ∧ w.heap.size ≠ g1 ∧ Blk wr g1 49 #[.slice A n c] ∧ SetAt wr A n o (unsF k) ∧ (0 < n → ∃ g, A = some ⟨g, 0, none⟩ ∧ w.heap.size < g) ∧
    Blk wr gt 82 #[.slice (some ⟨g2, 0, none⟩) n2 n2, .slice (some ⟨g3, 0, none⟩) n3 n3, .slice (some ⟨g4, 0, none⟩) n4 n4] ∧ gt ≠ g1 ∧
    RngAt wr wr.heap.size (some ⟨g2, 0, none⟩) pin_bidi ∧ RngAt wr wr.heap.size (some ⟨g3, 0, none⟩) pin_format ∧ RngAt wr wr.heap.size (some ⟨g4, 0, none⟩) pin_separator

theorem uns_step {w wr w1 w2 : World} {g1 gt g2 g3 g4 n2 n3 n4 k A5n c5 : Nat} {A5 : Option Addr} {o5 : List (Int × Int)} {t : List (Int × Int)}
    (h : UnsRel w g1 gt g2 g3 g4 n2 n3 n4 k wr) (hE1 : Ext wr w1) (hE2 : Ext w1 w2) (hS : SetAt w2 A5 A5n o5 (fun r => unsF k r || hasT t r)) (hF : Fresh w1 A5 A5n) (hf : ∀ r, (unsF k r || hasT t r) = unsF (k + 1) r) :
    UnsRel w g1 gt g2 g3 g4 n2 n3 n4 (k + 1) (w2.setCell ⟨g1, 0, none⟩ (.slice A5 A5n c5)) := by
  obtain ⟨A, n, c, o, hE, hg1, hB0, hne, hB1, hS0, _, hBt, hnt, h2, h3, h4⟩ := h
  have l0 := (hB0.ext hE1).lt
  have hE12 := Ext.trans' hE1 hE2
  have b1 := hB1.ext hE12
  have l1 := (hB1.ext hE1).lt
  have z2 : 0 < pin_bidi.length := by decide +kernel
  have z3 : 0 < pin_format.length := by decide +kernel
  have z4 : 0 < pin_separator.length := by decide +kernel
  refine ⟨A5, A5n, c5, o5, (hE.trans' hE12).setCell hg1 _, hg1, (hB0.ext hE12).far hne _, hne, b1.set_ 0 _, ?_, (fun hn => by obtain ⟨g, e, hg⟩ := hF hn; exact ⟨g, e, by omega⟩), (hBt.ext hE12).far hnt _, hnt, (h2.ext hE12).far (rng_ne (h2.ext hE12) z2 b1) _, (h3.ext hE12).far (rng_ne (h3.ext hE12) z3 b1) _, (h4.ext hE12).far (rng_ne (h4.ext hE12) z4 b1) _⟩
  have := hS.far hF (p := ⟨g1, 0, none⟩) l1 (.slice A5 A5n c5)
  rwa [funext hf] at this

theorem uns1 (r : Int) : (unsF 0 r || hasT pin_bidi r) = unsF 1 r := by simp [unsF]
theorem uns2 (r : Int) : (unsF 1 r || hasT pin_format r) = unsF 2 r := by simp [unsF]
theorem uns3 (r : Int) : (unsF 2 r || hasT pin_separator r) = unsF 3 r := by simp [unsF]
theorem uns0 : hasT pin_control = unsF 0 := by funext r; simp [unsF]

set_option maxRecDepth 100000 in
set_option maxHeartbeats 2000000 in
theorem pinUnsafe_any (w : World) : Calls Try.prog 61 #[] w (SetQ (unsF 3) w) := by
  have hl1 := len_control
  have hl2 := len_bidi
  have hl3 := len_format
  have hl4 := len_separator
  go_enter Try.func61, Try.ntmps61
  go_wp2_with fail
  refine (pin_controlT_any _).mono ?_
  rintro e w1 ⟨g, rfl, hR, hE⟩
  obtain ⟨n, hn⟩ : ∃ n, n = pin_control.length := ⟨_, rfl⟩
  rw [← hn]
  have HE1 := hide (Ext.trans' ((Ext.rfl' w).alloc (Nat.le_refl _) _) hE)
  have HB1 := hide ((Blk.new w 49 #[.slice none 0 0]).ext hE)
  have HC := hide (pinSet_any (some ⟨g, 0, none⟩) n n pin_control w1 hR hl1 hn)
  clear hR hE hn hl1
  go_wp2_with fail
  refine HC.out.mono ?_
  rintro e w2 ⟨A2, c2, m2, o2, rfl, hS, hF, hE⟩
  have HF2 := hide (fun hn => (by obtain ⟨g, e, hg⟩ := hF hn; exact ⟨g, e, by have := HB1.out.lt; omega⟩ : ∃ g, A2 = some ⟨g, 0, none⟩ ∧ w.heap.size < g))
  clear hF
  have HE2 := hide (HE1.out.trans' hE)
  have HB2 := hide (HB1.out.ext hE)
  have HS2 := hide hS
  clear hS hE HC HE1 HB1
  go_wp2_with fail
  refine (pin_bidiT_any _).mono ?_
  rintro e w3 ⟨ga, rfl, hR, hE⟩
  have hEs := Ext.trans' ((Ext.rfl' w2).alloc (Nat.le_refl _) (.cells #[.slice A2 m2 c2] 49)) hE
  have HE3 := hide (HE2.out.trans' hEs)
  have HB3 := hide (HB2.out.ext hEs)
  have HG3 := hide ((Blk.new w2 49 #[.slice A2 m2 c2]).ext hE)
  have HS3 := hide (HS2.out.ext hEs)
  have HRa3 := hide hR
  have k2 := HE2.out.size
  obtain ⟨g1, hg1⟩ : ∃ g, g = w2.heap.size := ⟨_, rfl⟩
  have hlt1 : w.heap.size < g1 := by rw [hg1]; exact HB2.out.lt
  rw [← hg1]
  rw [← hg1] at HG3
  clear hR hE hEs HE2 HB2 HS2 k2 hg1
  obtain ⟨na, hna⟩ : ∃ n, n = pin_bidi.length := ⟨_, rfl⟩
  rw [← hna]
  have HNa := hide hna
  clear hna
  go_wp2_with fail
  refine (pin_formatT_any _).mono ?_
  rintro e w4 ⟨gb, rfl, hR, hE⟩
  have HE4 := hide (HE3.out.trans' hE)
  have HB4 := hide (HB3.out.ext hE)
  have HG4 := hide (HG3.out.ext hE)
  have HS4 := hide (HS3.out.ext hE)
  have HRa4 := hide (HRa3.out.ext hE)
  have HRb4 := hide hR
  clear hR hE HE3 HB3 HG3 HS3 HRa3
  obtain ⟨nb, hnb⟩ : ∃ n, n = pin_format.length := ⟨_, rfl⟩
  rw [← hnb]
  have HNb := hide hnb
  clear hnb
  go_wp2_with fail
  refine (pin_separatorT_any _).mono ?_
  rintro e w5 ⟨gc, rfl, hR, hE⟩
  have HE5 := hide (HE4.out.trans' hE)
  have HB5 := hide (HB4.out.ext hE)
  have HG5 := hide (HG4.out.ext hE)
  have HS5 := hide (HS4.out.ext hE)
  have HRa5 := hide (HRa4.out.ext hE)
  have HRb5 := hide (HRb4.out.ext hE)
  have HRc5 := hide hR
  clear hR hE HE4 HB4 HG4 HS4 HRa4 HRb4
  obtain ⟨nc, hnc⟩ : ∃ n, n = pin_separator.length := ⟨_, rfl⟩
  rw [← hnc]
  have HNc := hide hnc
  clear hnc
  have HL := hide (And.intro hl2 (And.intro hl3 hl4))
  clear hl2 hl3 hl4
  go_wp2_with fail
  have l5 := HG5.out.lt
  go_loopw [11] (fun i wr => ∃ k : Nat, k ≤ 3 ∧ i = .int .i64 k ∧ UnsRel w g1 w5.heap.size ga gb gc na nb nc k wr) (fun i _ => 3 - (intOf i).toNat)
  case atStart =>
    have hX := (Ext.rfl' w5).alloc (Nat.le_refl _) (.cells #[.slice (some ⟨ga, 0, none⟩) na na, .slice (some ⟨gb, 0, none⟩) nb nb, .slice (some ⟨gc, 0, none⟩) nc nc] 82)
    have hS := HS5.out.ext hX
    rw [uns0] at hS
    exact ⟨0, by omega, rfl, A2, m2, c2, o2, HE5.out.trans' hX, by omega, HB5.out.ext hX, by omega, HG5.out.ext hX, hS, HF2.out, Blk.new _ _ _, by omega, HRa5.out.ext hX, HRb5.out.ext hX, HRc5.out.ext hX⟩
  case round =>
    obtain ⟨k, hk, rfl, hU⟩ := hrel
    have HU := hide hU
    obtain ⟨A, m, c, o, hE, hg1, hB0, hne, hB1, hS0, hfr, hBt, hnt, h2, h3, h4⟩ := hU
    have HFR := hide hfr
    have HEr := hide hE
    have lB0 := hB0.lt
    have lB1 := hB1.lt
    have b0 := hBt.cell 0
    have b1 := hBt.cell 1
    have b2 := hBt.cell 2
    have cg := hB1.cell 0
    simp only [List.getElem?_toArray, List.getElem?_cons_zero, List.getElem?_cons_succ] at b0 b1 b2 cg
    have HG1 := hide hB1
    have HS0 := hide hS0
    have HB0 := hide hB0
    have HC1 := hide (pinSet_any (some ⟨ga, 0, none⟩) na na pin_bidi _ (show RngAt wr.drew wr.drew.heap.size _ _ from h2) HL.out.1 HNa.out)
    have HC2 := hide (pinSet_any (some ⟨gb, 0, none⟩) nb nb pin_format _ (show RngAt wr.drew wr.drew.heap.size _ _ from h3) HL.out.2.1 HNb.out)
    have HC3 := hide (pinSet_any (some ⟨gc, 0, none⟩) nc nc pin_separator _ (show RngAt wr.drew wr.drew.heap.size _ _ from h4) HL.out.2.2 HNc.out)
    clear hE hB0 hB1 hS0 hBt h2 h3 h4 hfr
    have hcase : k = 0 ∨ k = 1 ∨ k = 2 ∨ k = 3 := by omega
    rcases hcase with rfl | rfl | rfl | rfl
    · go_wp2_with fail
      go_region_with (first
        | (go_at_call 88
           refine HC1.out.mono ?_
           rintro e x1 ⟨A5, c5, n5, o5, rfl, hS, _, hE⟩
           have HX1 := hide (show Ext wr x1 from Ext.trans' (Ext.drew' (Ext.rfl' wr)) hE)
           have HT := hide hS
           have HSx := hide (HS0.out.ext HX1.out)
           have cg := (HG1.out.ext HX1.out).cell 0
           simp only [List.getElem?_toArray, List.getElem?_cons_zero] at cg
           clear hE hS)
        | (go_at_call 36
           refine (joinQ HSx.out HT.out).mono ?_
           rintro e x2 ⟨A6, c6, n6, o6, rfl, hS, hF, hE⟩
           have HX2 := hide hE
           have HT2 := hide hS
           have HF := hide hF
           have hG2 := HG1.out.ext (HX1.out.trans' hE)
           have cg := hG2.cell 0
           have cf := hG2.free 0
           simp only [List.getElem?_toArray, List.getElem?_cons_zero] at cg
           clear hE hS hF hG2))
      all_goals
        go_wp2_with fail
        go_roundw
        case rel => exact ⟨1, by omega, rfl, uns_step HU.out HX1.out HX2.out HT2.out HF.out uns1⟩
        case measure => simp [intOf]
    · go_wp2_with fail
      go_region_with (first
        | (go_at_call 88
           refine HC2.out.mono ?_
           rintro e x1 ⟨A5, c5, n5, o5, rfl, hS, _, hE⟩
           have HX1 := hide (show Ext wr x1 from Ext.trans' (Ext.drew' (Ext.rfl' wr)) hE)
           have HT := hide hS
           have HSx := hide (HS0.out.ext HX1.out)
           have cg := (HG1.out.ext HX1.out).cell 0
           simp only [List.getElem?_toArray, List.getElem?_cons_zero] at cg
           clear hE hS)
        | (go_at_call 36
           refine (joinQ HSx.out HT.out).mono ?_
           rintro e x2 ⟨A6, c6, n6, o6, rfl, hS, hF, hE⟩
           have HX2 := hide hE
           have HT2 := hide hS
           have HF := hide hF
           have hG2 := HG1.out.ext (HX1.out.trans' hE)
           have cg := hG2.cell 0
           have cf := hG2.free 0
           simp only [List.getElem?_toArray, List.getElem?_cons_zero] at cg
           clear hE hS hF hG2))
      all_goals
        go_wp2_with fail
        go_roundw
        case rel => exact ⟨2, by omega, rfl, uns_step HU.out HX1.out HX2.out HT2.out HF.out uns2⟩
        case measure => simp [intOf]
    · go_wp2_with fail
      go_region_with (first
        | (go_at_call 88
           refine HC3.out.mono ?_
           rintro e x1 ⟨A5, c5, n5, o5, rfl, hS, _, hE⟩
           have HX1 := hide (show Ext wr x1 from Ext.trans' (Ext.drew' (Ext.rfl' wr)) hE)
           have HT := hide hS
           have HSx := hide (HS0.out.ext HX1.out)
           have cg := (HG1.out.ext HX1.out).cell 0
           simp only [List.getElem?_toArray, List.getElem?_cons_zero] at cg
           clear hE hS)
        | (go_at_call 36
           refine (joinQ HSx.out HT.out).mono ?_
           rintro e x2 ⟨A6, c6, n6, o6, rfl, hS, hF, hE⟩
           have HX2 := hide hE
           have HT2 := hide hS
           have HF := hide hF
           have hG2 := HG1.out.ext (HX1.out.trans' hE)
           have cg := hG2.cell 0
           have cf := hG2.free 0
           simp only [List.getElem?_toArray, List.getElem?_cons_zero] at cg
           clear hE hS hF hG2))
      all_goals
        go_wp2_with fail
        go_roundw
        case rel => exact ⟨3, by omega, rfl, uns_step HU.out HX1.out HX2.out HT2.out HF.out uns3⟩
        case measure => simp [intOf]
    · clear HC1 HC2 HC3 b0 b1 b2
      have cf := HB0.out.free 0
      have cz := HB0.out.cell 0
      simp only [List.getElem?_toArray, List.getElem?_cons_zero] at cz
      go_wp2_with fail
      refine set_retQ HB0.out rfl rfl rfl ?_
      exact ⟨A, c, m, o, rfl, HS0.out.far2 HFR.out _, fun hn => by obtain ⟨g, e, hg⟩ := HFR.out hn; exact ⟨g, e, by omega⟩, HEr.out.setCell (Nat.le_refl _) _⟩
end Go.Proofs.Ytkfepdejiedjbaa
