/- ranges.Set: Both. -/
import Derived.Test.YtkfepdejiedjbaaRngB
namespace Go.Proofs.Ytkfepdejiedjbaa
open Go.RowKit

theorem bothL_at (s t : List (Int × Int)) (i k : Nat) (hi : i < s.length) (hk : k < t.length) :
    bothL (s.drop i) (t.drop k) = (max s[i].1 t[k].1, min s[i].2 t[k].2) :: if s[i].2 < t[k].2 then bothL (s.drop (i + 1)) (t.drop k) else bothL (s.drop i) (t.drop (k + 1)) := by
  rw [List.drop_eq_getElem_cons hi, List.drop_eq_getElem_cons hk, bothL_step]
theorem bothL_out (s t : List (Int × Int)) (i k : Nat) (h : s.length ≤ i ∨ t.length ≤ k) : bothL (s.drop i) (t.drop k) = [] := by
  rcases h with h | h
  · rw [List.drop_eq_nil_of_le h, bothL]
  · rw [List.drop_eq_nil_of_le h]
    cases s.drop i <;> rw [bothL]

/-- Two ranges that have been laid, in whichever order. -/
def TwoLaid (wr : World) (p q : Int × Int) (x y : Value) (wx : World) : Prop :=
  ∃ gx gy, x = .pointer (some ⟨gx, 0, none⟩) ∧ y = .pointer (some ⟨gy, 0, none⟩) ∧ wr.heap.size ≤ gx ∧ wr.heap.size ≤ gy ∧ Blk wx gx 85 #[i32v p.1, i32v p.2] ∧ Blk wx gy 85 #[i32v q.1, i32v q.2] ∧ Ext wr wx
theorem Blk.drew' {w : World} {g : Nat} {t : TypeId} {cs : Array Value} (h : Blk w g t cs) : Blk w.drew g t cs := h
theorem Blk.new_at (w : World) (t : TypeId) (cs : Array Value) {g : Nat} (h : g = w.heap.size) : Blk (w.alloc (.cells cs t)) g t cs := by subst h; exact Blk.new w t cs
theorem twoLaid_ab (wr : World) (p q : Int × Int) : TwoLaid wr p q (.pointer (some ⟨wr.heap.size, 0, none⟩)) (.pointer (some ⟨wr.heap.size + 1, 0, none⟩)) ((wr.alloc (.cells #[i32v p.1, i32v p.2] 85)).alloc (.cells #[i32v q.1, i32v q.2] 85)).drew :=
  ⟨_, _, rfl, rfl, Nat.le_refl _, by omega, ((Blk.new _ _ _).alloc _).drew', (Blk.new_at _ _ _ (by simp)).drew', (((Ext.rfl' wr).alloc (Nat.le_refl _) _).alloc (by simp) _).drew⟩
theorem twoLaid_ba (wr : World) (p q : Int × Int) : TwoLaid wr p q (.pointer (some ⟨wr.heap.size + 1, 0, none⟩)) (.pointer (some ⟨wr.heap.size, 0, none⟩)) ((wr.alloc (.cells #[i32v q.1, i32v q.2] 85)).alloc (.cells #[i32v p.1, i32v p.2] 85)).drew :=
  ⟨_, _, rfl, rfl, by omega, Nat.le_refl _, (Blk.new_at _ _ _ (by simp)).drew', ((Blk.new _ _ _).alloc _).drew', (((Ext.rfl' wr).alloc (Nat.le_refl _) _).alloc (by simp) _).drew⟩

set_option maxRecDepth 100000 in
set_option maxHeartbeats 1000000 in
theorem both_any (A : Option Addr) (c : Nat) (s : List (Int × Int)) (A2 : Option Addr) (c2 : Nat) (t : List (Int × Int)) (w : World) (h : RngAt w w.heap.size A s) (h2 : RngAt w w.heap.size A2 t) (hl : s.length + t.length ≤ 9000000) (hcs : canonFrom 0 s) (hct : canonFrom 0 t) :
    Calls Try.prog 39 #[.agg #[.slice A s.length c], .agg #[.slice A2 t.length c2]] w (SetPost (fun r => inT s r && inT t r) (s.length + t.length) w) := by
  have HCS := hide hcs
  have HCT := hide hct
  clear hcs hct
  go_enter Try.func39, Try.ntmps39
  go_wp2_with fail
  go_loopw [6, 7, 5] (fun iv kv o wr => ∃ (i k : Nat) (Ao : Option Addr) (co : Nat) (O : List (Int × Int)), i ≤ s.length ∧ k ≤ t.length ∧ iv = .int .i64 i ∧ kv = .int .i64 k ∧ o = .slice Ao O.length co ∧ O.length ≤ i + k ∧ bothL s t = O ++ bothL (s.drop i) (t.drop k) ∧ Ext w wr ∧ Blk wr w.heap.size 49 #[.slice A s.length c] ∧ Blk wr (w.heap.size + 1) 49 #[.slice A2 t.length c2] ∧ Blk wr (w.heap.size + 2) 49 #[.slice none 0 0] ∧ wr.ownsRow (w.heap.size + 3) 85 2 (.slice Ao O.length co) O.length (rngCells O)) (fun iv kv _ _ => s.length + t.length - (intOf iv).toNat - (intOf kv).toNat)
  case atStart =>
    refine ⟨0, 0, none, 0, [], Nat.zero_le _, Nat.zero_le _, rfl, rfl, rfl, Nat.le_refl _, rfl, (((Ext.rfl' w).alloc (Nat.le_refl _) _).alloc (by simp) _).alloc (by simp; omega) _, ((Blk.new _ _ _).alloc _).alloc _, ?_, ?_, World.ownsRow_nil _ _ _ _⟩
    · have := (Blk.new (w.alloc (.cells #[.slice A s.length c] 49)) 49 #[.slice A2 t.length c2]).alloc (.cells #[.slice none 0 0] 49)
      simpa using this
    · have := Blk.new ((w.alloc (.cells #[.slice A s.length c] 49)).alloc (.cells #[.slice A2 t.length c2] 49)) 49 #[.slice none 0 0]
      simpa using this
  case round =>
    obtain ⟨i, k, Ao, co, O, hi, hk, rfl, rfl, rfl, hOl, hbo, hE, hB1, hB2, hB3, hO⟩ := hrel
    have b1 := hB1.cell 0
    have b2 := hB2.cell 0
    simp only [List.getElem?_toArray, List.getElem?_cons_zero] at b1 b2
    have HE := hide hE
    have HB1 := hide hB1
    have HB2 := hide hB2
    have HB3 := hide hB3
    have HBO := hide hbo
    have hsz := hB3.lt
    obtain ⟨n, hn⟩ : ∃ n, n = O.length := ⟨_, rfl⟩
    rw [← hn] at hO hOl ⊢
    have HO := hide hO
    have HN := hide hn
    clear hB1 hB2 hB3 hbo hO hn
    by_cases hlt : i < s.length
    · by_cases hlk : k < t.length
      · obtain ⟨b, o, rfl, hbs, hcell⟩ := h.cell (by omega)
        obtain ⟨hp1, hp2⟩ := hcell i hlt
        obtain ⟨b', o', rfl, hbs', hcell'⟩ := h2.cell (by omega)
        obtain ⟨hr1, hr2⟩ := hcell' k hlk
        have hst := bothL_at s t i k hlt hlk
        obtain ⟨lo, hlo⟩ : ∃ lo, lo = s[i].1 := ⟨_, rfl⟩
        obtain ⟨hi', hhi⟩ : ∃ hi, hi = s[i].2 := ⟨_, rfl⟩
        obtain ⟨lo2, hlo2⟩ : ∃ lo, lo = t[k].1 := ⟨_, rfl⟩
        obtain ⟨hi2, hhi2⟩ : ∃ hi, hi = t[k].2 := ⟨_, rfl⟩
        rw [← hlo, ← hhi, ← hlo2, ← hhi2] at hst
        rw [← hlo] at hp1
        rw [← hhi] at hp2
        rw [← hlo2] at hr1
        rw [← hhi2] at hr2
        have q1 : wr.cell? ⟨b, o + i * 2, none⟩ = some (i32v lo) := (hE.cell (p := ⟨b, o + i * 2, none⟩) hbs).trans hp1
        have q2 : wr.cell? ⟨b, o + i * 2 + 1, none⟩ = some (i32v hi') := (hE.cell (p := ⟨b, o + i * 2 + 1, none⟩) hbs).trans hp2
        have q3 : wr.cell? ⟨b', o' + k * 2, none⟩ = some (i32v lo2) := (hE.cell (p := ⟨b', o' + k * 2, none⟩) hbs').trans hr1
        have q4 : wr.cell? ⟨b', o' + k * 2 + 1, none⟩ = some (i32v hi2) := (hE.cell (p := ⟨b', o' + k * 2 + 1, none⟩) hbs').trans hr2
        have HST := hide hst
        clear hst hlo hhi hlo2 hhi2 hp1 hp2 hr1 hr2 hcell hcell' hE
        have HX : ∀ {p : Addr} {v : Value}, wr.cell? p = some v → p.block < wr.heap.size → (∀ X, (wr.alloc X).cell? p = some v) ∧ ∀ X Y, ((wr.alloc X).alloc Y).cell? p = some v := fun h2 h1 => ⟨fun X => (World.cell?_alloc_lt wr X _ h1).trans h2, fun X Y => (World.cell?_alloc_lt (wr.alloc X) Y _ (by simp; omega)).trans ((World.cell?_alloc_lt wr X _ h1).trans h2)⟩
        have q0 := HX b1 (by show w.heap.size < _; omega)
        have q00 := HX b2 (by show w.heap.size + 1 < _; omega)
        have q11 := HX q1 (by show b < _; omega)
        have q22 := HX q2 (by show b < _; omega)
        have q33 := HX q3 (by show b' < _; omega)
        have q44 := HX q4 (by show b' < _; omega)
        clear HX
        obtain ⟨q0a, q0b⟩ := q0
        obtain ⟨q00a, q00b⟩ := q00
        obtain ⟨q11a, q11b⟩ := q11
        obtain ⟨q22a, q22b⟩ := q22
        obtain ⟨q33a, q33b⟩ := q33
        obtain ⟨q44a, q44b⟩ := q44
        go_wp2_with fail
        go_cut [8, 9] (fun x y wx => TwoLaid wr (lo, hi') (lo2, hi2) x y wx)
        case first =>
          go_region
          all_goals (go_wp2_with fail; go_meet; first | exact twoLaid_ab wr (lo, hi') (lo2, hi2) | exact twoLaid_ba wr (lo, hi') (lo2, hi2))
        case rest =>
          clear q0a q0b q00a q00b q11a q11b q22a q22b q33a q33b q44a q44b
          obtain ⟨gx, gy, rfl, rfl, hgx, hgy, hX, hY, hEx⟩ := hcut
          have lx := hX.lt
          have ly := hY.lt
          have x0 := hX.cell 0
          have x1 := hX.cell 1
          have y0 := hY.cell 0
          have y1 := hY.cell 1
          simp only [List.getElem?_toArray, List.getElem?_cons_zero, List.getElem?_cons_succ] at x0 x1 y0 y1
          have HX := hide hX
          have HY := hide hY
          have HEX := hide hEx
          clear hX hY hEx
          go_wp2_with (at_builtin; refine wpList_append_R _ rfl _ _ rfl (w.heap.size + 3) _ n O rfl (max lo lo2, min hi' hi2) _ _ 1 1 [(max lo lo2, min hi' hi2)] rfl ((own_ext HO.out HEX.out).alloc _) (reads_one _ _ _ _ _ (by simp)) (by omega) (by simp; omega) ?_)
          intro A3 c3 w3 hown3 hgrow3 _
          have HE3 := hide (grown_ext (w := w) (wr := wr) (base := w.heap.size + 3) HE.out (HEX.out.alloc (by omega) _) hgrow3 HO.out (by omega))
          have HB13 := hide (grown_blk ((HB1.out.ext HEX.out).alloc _) hgrow3 HO.out (.inl (by omega)))
          have HB23 := hide (grown_blk ((HB2.out.ext HEX.out).alloc _) hgrow3 HO.out (.inl (by omega)))
          have HB33 := hide (grown_blk ((HB3.out.ext HEX.out).alloc _) hgrow3 HO.out (.inl (by omega)))
          have x3 := (grown_blk (HX.out.alloc _) hgrow3 HO.out (.inr hgx)).cell 1
          have y3 := (grown_blk (HY.out.alloc _) hgrow3 HO.out (.inr hgy)).cell 1
          have HO3 := hide hown3
          clear x0 x1 y0 y1 hown3 hgrow3 b1 b2 q1 q2 q3 q4
          simp only [List.getElem?_toArray, List.getElem?_cons_zero, List.getElem?_cons_succ] at x3 y3
          have hL3 : (O ++ [(max lo lo2, min hi' hi2)]).length = n + 1 := by simp [HN.out]
          have HL3 := hide hL3
          clear hL3
          by_cases hlt2 : hi' < hi2
          · rw [if_pos hlt2] at HST
            go_wp2_with fail
            go_roundw
            case rel => exact ⟨i + 1, k, A3, c3, O ++ [(max lo lo2, min hi' hi2)], by omega, by omega, by go_num, rfl, by rw [HL3.out], by rw [HL3.out]; omega, by rw [HBO.out, HST.out]; simp, HE3.out, HB13.out, HB23.out, HB33.out, by rw [HL3.out]; exact HO3.out⟩
            case measure => simp [intOf]; omega
          · rw [if_neg hlt2] at HST
            go_wp2_with fail
            go_roundw
            case rel => exact ⟨i, k + 1, A3, c3, O ++ [(max lo lo2, min hi' hi2)], by omega, by omega, rfl, by go_num, by rw [HL3.out], by rw [HL3.out]; omega, by rw [HBO.out, HST.out]; simp, HE3.out, HB13.out, HB23.out, HB33.out, by rw [HL3.out]; exact HO3.out⟩
            case measure => simp [intOf]; omega
      · obtain rfl : k = t.length := by omega
        have hEnd := bothL_out s t i t.length (.inr (Nat.le_refl _))
        have HEnd := hide (HBO.out.trans (by rw [hEnd, List.append_nil] : O ++ bothL (s.drop i) (t.drop t.length) = O))
        have hln := bothL_len s t
        rw [HEnd.out] at hln
        rw [HN.out] at HO
        have HC := hide (newR_any Ao co O wr (Reads.of_own HO.out) (by omega))
        rw [← HN.out] at HC
        have cB := HB3.out.cell 0
        have fB := HB3.out.free 0
        simp only [List.getElem?_toArray, List.getElem?_cons_zero] at cB
        clear hEnd hE hln
        go_wp2_with fail
        refine HC.out.mono ?_
        rintro e w4 ⟨A4, c4, out, rfl, hO4, hc4, hi4, hl4, hE4⟩
        have hB4 := HB3.out.ext hE4
        have cB4 := hB4.cell 0
        have fB4 := hB4.free 0
        simp only [List.getElem?_toArray, List.getElem?_cons_zero] at cB4
        have HB4 := hide hB4
        have HR := hide (fun u => set_end (f := fun r => inT s r && inT t r) (n := s.length + t.length) (g := w.heap.size + 1 + 1) (by omega) (by omega) (HE.out.trans' hE4) hO4 hc4 (fun r => by
          rw [hi4 r, hasT, ← HEnd.out, bothL_in HCS.out HCT.out]
          cases hx : inT s r with
          | false => simp
          | true => have := canonFrom_in HCS.out hx; simp; omega) (by have := bothL_len s t; rw [HEnd.out] at this; omega) u)
        clear hO4 hc4 hi4 hl4 hE4 hB4
        go_wp2_with fail
        exact set_ret HB4.out rfl rfl rfl (HR.out _)
    · obtain rfl : i = s.length := by omega
      have hEnd := bothL_out s t s.length k (.inl (Nat.le_refl _))
      have HEnd := hide (HBO.out.trans (by rw [hEnd, List.append_nil] : O ++ bothL (s.drop s.length) (t.drop k) = O))
      have hln := bothL_len s t
      rw [HEnd.out] at hln
      rw [HN.out] at HO
      have HC := hide (newR_any Ao co O wr (Reads.of_own HO.out) (by omega))
      rw [← HN.out] at HC
      have cB := HB3.out.cell 0
      have fB := HB3.out.free 0
      simp only [List.getElem?_toArray, List.getElem?_cons_zero] at cB
      clear hEnd hE hln
      go_wp2_with fail
      refine HC.out.mono ?_
      rintro e w4 ⟨A4, c4, out, rfl, hO4, hc4, hi4, hl4, hE4⟩
      have hB4 := HB3.out.ext hE4
      have cB4 := hB4.cell 0
      have fB4 := hB4.free 0
      simp only [List.getElem?_toArray, List.getElem?_cons_zero] at cB4
      have HB4 := hide hB4
      have HR := hide (fun u => set_end (f := fun r => inT s r && inT t r) (n := s.length + t.length) (g := w.heap.size + 1 + 1) (by omega) (by omega) (HE.out.trans' hE4) hO4 hc4 (fun r => by
        rw [hi4 r, hasT, ← HEnd.out, bothL_in HCS.out HCT.out]
        cases hx : inT s r with
        | false => simp
        | true => have := canonFrom_in HCS.out hx; simp; omega) (by have := bothL_len s t; rw [HEnd.out] at this; omega) u)
      clear hO4 hc4 hi4 hl4 hE4 hB4
      go_wp2_with fail
      exact set_ret HB4.out rfl rfl rfl (HR.out _)
end Go.Proofs.Ytkfepdejiedjbaa
