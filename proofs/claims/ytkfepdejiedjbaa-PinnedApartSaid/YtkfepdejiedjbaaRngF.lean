/- The document's ranges: Ranges. -/
import Derived.Test.YtkfepdejiedjbaaRngD
import Derived.Test.YtkfepdejiedjbaaRngE
namespace Go.Proofs.Ytkfepdejiedjbaa
open Go.RowKit

def RefPost (f : Int → Bool) (w : World) (e : Ending) (w' : World) : Prop :=
  ∃ A c O, e = .returned (.slice A (List.length O) c) ∧ RngAt w' w'.heap.size A O ∧ canonFrom 0 O ∧ (∀ r, inT O r = f r) ∧ Ext w w'

set_option maxRecDepth 100000 in
set_option maxHeartbeats 2000000 in
theorem refRanges_any (A : Option Addr) (c : Nat) (a : List (Int × Int)) (A2 : Option Addr) (c2 : Nat) (b : List (Int × Int)) (how : Int) (w : World) (h : RngAt w w.heap.size A a) (h2 : RngAt w w.heap.size A2 b) (hl : a.length ≤ 17592186044416) (hl2 : b.length ≤ 17592186044416)
    (h32 : ∀ p ∈ a, -2147483648 ≤ p.1 ∧ p.1 ≤ 2147483647 ∧ -2147483648 ≤ p.2 ∧ p.2 ≤ 2147483647) (h322 : ∀ p ∈ b, -2147483648 ≤ p.1 ∧ p.1 ≤ 2147483647 ∧ -2147483648 ≤ p.2 ∧ p.2 ≤ 2147483647) :
    Calls Try.prog 38 #[.slice A a.length c, .slice A2 b.length c2, .int .i64 how] w (RefPost (kindL a b how) w) := by
  have HN1 := hide (fun w' (hE : Ext w w') fr (h0 : 0 ≤ fr) (h1 : fr ≤ 1114112) => refNext_any A c a fr w' (h.ext hE) hl h0 h1 h32)
  have HN2 := hide (fun w' (hE : Ext w w') fr (h0 : 0 ≤ fr) (h1 : fr ≤ 1114112) => refNext_any A2 c2 b fr w' (h2.ext hE) hl2 h0 h1 h322)
  have HK := hide (fun w' (hE : Ext w w') r => refKind_any2 A c a A2 c2 b how r w' (h.ext hE) (h2.ext hE) hl hl2)
  clear h32 h322
  go_enter Try.func38, Try.ntmps38
  go_wp2_with fail
  go_loopw [8, 7] (fun i o wr => ∃ (t : Int) (Ao : Option Addr) (co : Nat) (O : List (Int × Int)), i = .int .i64 t ∧ o = .slice Ao O.length co ∧ goneTo a b how t O ∧ Ext w wr ∧ wr.ownsRow w.heap.size 85 2 (.slice Ao O.length co) O.length (rngCells O)) (fun i _ _ => (1114112 - intOf i).toNat)
  case atStart => exact ⟨0, none, 0, [], rfl, rfl, gone_start a b how, Ext.rfl' _, World.ownsRow_nil _ _ _ _⟩
  case round =>
    obtain ⟨t, Ao, co, O, rfl, rfl, hg, hE, hO⟩ := hrel
    have ht0 := hg.1
    have ht1 := hg.2.1
    have hol := canon_len0 hg.2.2.1
    have HG := hide hg
    have HE := hide hE
    have HO := hide hO
    clear hg hE hO
    by_cases hlt : t ≤ 1114111
    · have hend : endL a b t = if nextL b (t + 1) < nextL a (t + 1) then nextL b (t + 1) else nextL a (t + 1) := rfl
      have hbd := endL_spec (a := a) (b := b) ht0 hlt how
      obtain ⟨hb1, hb2, _⟩ := hbd
      have hx := nextL_spec a (t + 1) (by omega)
      have hy := nextL_spec b (t + 1) (by omega)
      obtain ⟨hx1, hx2, _⟩ := hx
      obtain ⟨hy1, hy2, _⟩ := hy
      have HC1 := hide (HN1.out wr HE.out (t + 1) (by omega) (by omega))
      have hC2 := fun w' (hE : Ext w w') => HN2.out w' hE (t + 1) (by omega) (by omega)
      have hC3 := fun w' (hE : Ext w w') => HK.out w' hE t
      obtain ⟨x, hxx⟩ : ∃ x, x = nextL a (t + 1) := ⟨_, rfl⟩
      obtain ⟨y, hyy⟩ : ∃ y, y = nextL b (t + 1) := ⟨_, rfl⟩
      obtain ⟨en, hen⟩ : ∃ en, en = endL a b t := ⟨_, rfl⟩
      obtain ⟨kd, hkd⟩ : ∃ kd, kd = kindL a b how t := ⟨_, rfl⟩
      rw [← hxx] at HC1 hend hx1 hx2
      rw [← hyy] at hend hy1 hy2
      rw [← hen] at hend hb1 hb2
      simp only [← hyy] at hC2
      simp only [← hkd] at hC3
      have HC2 := hide hC2
      have HC3 := hide hC3
      have HEN := hide hen
      have HKD := hide hkd
      clear hC2 hC3 hen hkd hxx hyy
      go_wp2_with fail
      refine HC1.out.mono ?_
      rintro e w1 ⟨rfl, hE1⟩
      have HE1 := hide (HE.out.trans' hE1)
      have HO1 := hide (own_ext HO.out hE1)
      clear hE1
      go_wp2_with fail
      refine (HC2.out _ HE1.out).mono ?_
      rintro e w2 ⟨rfl, hE2⟩
      have HE2 := hide (HE1.out.trans' hE2)
      have HO2 := hide (own_ext HO1.out hE2)
      clear hE2
      clear HC1 HC2 HN1 HN2 HK
      have hcase : (y < x ∧ en = y) ∨ (¬ y < x ∧ en = x) := by
        by_cases hyx : y < x
        · exact .inl ⟨hyx, by rw [hend, if_pos hyx]⟩
        · exact .inr ⟨hyx, by rw [hend, if_neg hyx]⟩
      clear hend
      rcases hcase with ⟨hyx, hen⟩ | ⟨hyx, hen⟩
      all_goals
        subst hen
        cases kd with
        | false =>
          go_wp2_with (go_at_call 80; with_reducible refine (HC3.out _ HE2.out).mono ?_; rintro e w' ⟨rfl, rfl⟩)
          go_roundw
          case rel =>
            have := gone_no HG.out hlt HKD.out.symm
            rw [← HEN.out] at this
            exact ⟨en, Ao, co, O, rfl, rfl, this, HE2.out, HO2.out⟩
          case measure => simp [intOf]; omega
        | true =>
          rcases List.eq_nil_or_concat O with hO | ⟨d, cc, hO⟩
          · subst hO
            go_wp2_with (first
              | (go_at_call 80; with_reducible refine (HC3.out _ HE2.out).mono ?_; rintro e w' ⟨rfl, rfl⟩)
              | (at_builtin; refine wpList_append_R _ rfl _ _ rfl w.heap.size _ 0 [] rfl (t, en - 1) _ _ 1 1 [(t, en - 1)] rfl (HO2.out.alloc _) (reads_one _ _ _ _ _ rfl) (by omega) (by have := HE2.out.size; simp; omega) ?_))
            intro A3 c3 w3 hown3 hgrow3 _
            have HE3 := hide (grown_ext (w := w) (wr := w2) HE2.out ((Ext.rfl' _).alloc (Nat.le_refl _) _) hgrow3 HO2.out (Nat.le_refl _))
            have HO3 := hide hown3
            clear hown3 hgrow3
            go_wp2_with fail
            go_roundw
            case rel =>
              have := gone_new HG.out hlt HKD.out.symm (fun d c e => by simp at e)
              rw [← HEN.out] at this
              exact ⟨en, A3, c3, [] ++ [(t, en - 1)], rfl, rfl, this, HE3.out, by simpa using HO3.out⟩
            case measure => simp [intOf]; omega
          · rw [List.concat_eq_append] at hO
            subst hO
            obtain ⟨g, rfl, hgb, hgl, hgc, hgf⟩ := own_cell2 HO2.out (by simp)
            have hlast : (rngCells (d ++ [cc]))[d.length * 2 + 1]? = some (i32v cc.2) := by
              have := (rngCells_get (d ++ [cc]) d.length (by simp)).2
              simpa using this
            have r2 := (hgc (d.length * 2 + 1) (by simp; omega)).trans hlast
            have r2f := hgf (d.length * 2 + 1)
            have hcb := gone_last HG.out cc (by simp)
            obtain ⟨n, hn⟩ : ∃ n, n = d.length := ⟨_, rfl⟩
            have hlen2 : (d ++ [cc]).length = n + 1 := by simp [hn]
            rw [hlen2] at hol ⊢
            rw [hlen2] at HO2
            rw [← hn] at r2 r2f
            have HNN := hide hn
            have HL2 := hide hlen2
            obtain ⟨ch, hch⟩ : ∃ ch, ch = cc.2 := ⟨_, rfl⟩
            rw [← hch] at r2 hcb
            obtain ⟨hcb1, hcb2, hcb3, hcb4⟩ := hcb
            have HCH := hide hch
            clear hgc hgf hlast hn hlen2 hch HO HO1
            by_cases hj : ch = t - 1
            · subst hj
              go_wp2_with (go_at_call 80; with_reducible refine (HC3.out _ HE2.out).mono ?_; rintro e w' ⟨rfl, rfl⟩)
              go_roundw
              case rel =>
                have hm := gone_join HG.out hlt HKD.out.symm (by rw [← HCH.out])
                rw [← HEN.out] at hm
                have hL3 : (d ++ [(cc.1, en - 1)]).length = n + 1 := by simp [HNN.out]
                refine ⟨en, some ⟨g, 0, none⟩, co, d ++ [(cc.1, en - 1)], rfl, by rw [hL3], hm, Below.setCell HE2.out hgb _, ?_⟩
                rw [hL3, ← rngCells_setHi d cc, ← HNN.out]
                exact (HO2.out.stored (n * 2 + 1) (i32v (en - 1))).1
              case measure => simp [intOf]; omega
            · have hj' : (ch == t - 1) = false := by simpa using hj
              go_wp2_with (first
                | (go_at_call 80; with_reducible refine (HC3.out _ HE2.out).mono ?_; rintro e w' ⟨rfl, rfl⟩)
                | (at_builtin; refine wpList_append_R _ rfl _ _ rfl w.heap.size _ (n + 1) (d ++ [cc]) rfl (t, en - 1) _ _ 1 1 [(t, en - 1)] rfl (HO2.out.alloc _) (reads_one _ _ _ _ _ rfl) (by omega) (by have := HE2.out.size; simp; omega) ?_))
              intro A3 c3 w3 hown3 hgrow3 _
              have HE3 := hide (grown_ext (w := w) (wr := w2) HE2.out ((Ext.rfl' _).alloc (Nat.le_refl _) _) hgrow3 HO2.out (Nat.le_refl _))
              have HO3 := hide hown3
              clear hown3 hgrow3
              go_wp2_with fail
              go_roundw
              case rel =>
                have hm := gone_new HG.out hlt HKD.out.symm (fun d' c'' e => by obtain ⟨_, e2⟩ := List.append_inj' e rfl; obtain rfl : cc = c'' := (by simpa using e2); rw [← HCH.out]; exact hj)
                rw [← HEN.out] at hm
                have hL3 : (d ++ [cc] ++ [(t, en - 1)]).length = n + 1 + 1 := by rw [List.length_append, HL2.out]; rfl
                exact ⟨en, A3, c3, (d ++ [cc]) ++ [(t, en - 1)], rfl, by rw [hL3], hm, HE3.out, by rw [hL3]; simpa using HO3.out⟩
              case measure => simp [intOf]; omega
    · clear HN1 HN2 HK
      go_wp2_with fail
      go_ret
      obtain ⟨g1, g2⟩ := gone_end HG.out (by omega)
      exact ⟨Ao, co, O, rfl, (Reads.of_own HO.out), g1, g2, HE.out⟩
end Go.Proofs.Ytkfepdejiedjbaa
