/- lattice: called. -/
import Derived.Test.YtpjlhpaenmfieaaGreatLatSt
import Derived.Test.YtpjlhpaenmfieaaGreatLatSt
namespace Go.Proofs.YtpjlhpaenmfieaaGreat
open Go.RowKit

theorem grown_blk {wr w0 w3 : World} {base size n g : Nat} {e t : TypeId} {v : Value} {xs : List Value} {cs : Array Value} (hB : Blk w0 g t cs) (hg : w0.grownBy w3 v.ownBlock) (hO : wr.ownsRow base e size v n xs) (hne : g < base ∨ wr.heap.size ≤ g) : Blk w3 g t cs := by
  refine (hg.block g hB.lt ?_).trans hB
  intro e
  have := hO.lt g e.symm
  omega

theorem ext_two {w w3 : World} (h : Ext w w3) (u v : Value) : Ext w ((w3.setCell ⟨w.heap.size, 0, none⟩ u).setCell ⟨w.heap.size, 1, none⟩ v) :=
  (h.setCell (show w.heap.size ≤ w.heap.size from Nat.le_refl _) u).setCell (show w.heap.size ≤ w.heap.size from Nat.le_refl _) v

def CalledPost (ws : List Wd) (n : Nat) (w : World) (e : Ending) (w' : World) : Prop :=
  (∃ x, firstOf (nameBad ws) n = some x ∧ e = .returned (.tuple #[.slice none 0 0, fltV x]) ∧ Ext w w') ∨
  (firstOf (nameBad ws) n = none ∧ ∃ A c, e = .returned (.tuple #[.slice A n c, fltV (0, 0)]) ∧ StrAt w' w'.heap.size A (nms ws) ∧ Ext w w')

set_option maxRecDepth 100000 in
set_option maxHeartbeats 2000000 in
theorem called_any (A : Option Addr) (c n : Nat) (ws : List Wd) (w : World) (h : WdsAt w w.heap.size A ws) (hsz : ∀ i, (wNm ws i).size ≤ maxLen) (hn : n = ws.length) (hle : n ≤ 1000) :
    Calls Tryz.prog 33 #[.slice A n c] w (CalledPost ws n w) := by
  have HN := hide hn
  have HW := hide h
  have HSZ := hide hsz
  clear hn h hsz
  go_enter Tryz.func33, Tryz.ntmps33
  go_wp2_with fail
  go_loopw [9, 4] (fun i o wr => ∃ (k : Nat) (Ao : Option Addr) (co : Nat), k ≤ n ∧ i = .int .i64 k ∧ o = .slice Ao k co ∧ Ext w wr ∧ Blk wr w.heap.size 31 #[.int .i64 0, .int .i64 0] ∧ wr.ownsRow (w.heap.size + 1) 9 1 (.slice Ao k co) k (strCells ((nms ws).take k)) ∧ Hid (∀ j, j < k → nameBad ws j = none)) (fun i _ _ => n - (intOf i).toNat)
  case atStart => exact ⟨0, none, 0, Nat.zero_le _, rfl, rfl, (Ext.rfl' w).alloc (Nat.le_refl _) _, Blk.new _ _ _, World.ownsRow_nil _ _ _ _, fun j hj => absurd hj (by omega)⟩
  case round =>
    obtain ⟨k, Ao, co, hk, rfl, rfl, hE, hB, hO, HA⟩ := hrel
    have HE := hide hE
    have HB := hide hB
    have HO := hide hO
    have hs := hB.lt
    by_cases hlt : k < n
    · have hkl : k < ws.length := by rw [← HN.out]; exact hlt
      obtain ⟨b, o, rfl, hbs, hcell⟩ := HW.out.cell (by omega)
      obtain ⟨hp1, hp2⟩ := hcell k hkl
      obtain ⟨x, hx⟩ : ∃ x, x = wNm ws k := ⟨_, rfl⟩
      obtain ⟨p, hp⟩ : ∃ p, p = wPl ws k := ⟨_, rfl⟩
      obtain ⟨hn1, hn2, hn3⟩ := next_name hkl HA.out
      have hst := nms_take ws k hkl
      have hxs := HSZ.out k
      rw [← hx] at hp1 hn1 hn2 hn3 hst hxs
      rw [← hp] at hp2 hn1 hn2
      have q1 : wr.cell? ⟨b, o + k * 2, none⟩ = some (.string x) := (hE.cell (p := ⟨b, o + k * 2, none⟩) hbs).trans hp1
      have q2 : wr.cell? ⟨b, o + k * 2 + 1, none⟩ = some (.int .i64 p) := (hE.cell (p := ⟨b, o + k * 2 + 1, none⟩) hbs).trans hp2
      obtain ⟨rb, hrb⟩ : ∃ r, r = rightB x := ⟨_, rfl⟩
      have HR := hide (fun w => right_any x w hxs)
      rw [← hrb] at HR hn1 hn2 hn3
      have H1 := hide hn1
      have H2 := hide hn2
      have H3 := hide hn3
      have HST := hide hst
      clear hst hp1 hp2 hcell hE hB hO hx hp hn1 hn2 hn3 hrb hxs
      go_wp2_with (at_builtin; refine wpList_append_S _ rfl _ _ rfl (w.heap.size + 1) _ k ((nms ws).take k) rfl (wr.heap.size + 1) x _ rfl ((HO.out.alloc _).alloc _) (reads_at _ _ _ _ (by simp)) (by omega) (by simp; omega) ?_)
      intro A3 c3 w3 hown3 hgrow3 _
      have HE3 := hide (grown_ext' (w := w) (wr := wr) (base := w.heap.size + 1) HE.out (((Ext.rfl' wr).alloc (Nat.le_refl _) _).alloc (by simp) _) hgrow3 HO.out (by omega))
      have hB3 := grown_blk ((HB.out.alloc _).alloc _) hgrow3 HO.out (.inl (by omega))
      have hV3 := grown_blk ((Blk.new wr 44 #[.string x, .int .i64 p]).alloc _) hgrow3 HO.out (.inr (Nat.le_refl _))
      have fB3 := hB3.free 0
      have fB4 := hB3.free 1
      have b0 := hB3.cell 0
      have b1 := hB3.cell 1
      have v0 := hV3.cell 0
      have v1 := hV3.cell 1
      have bB := hB3.lt
      have HB3 := hide hB3
      have HV3 := hide hV3
      rw [← HST.out] at hown3
      have HO3 := hide hown3
      simp only [List.getElem?_toArray, List.getElem?_cons_zero, List.getElem?_cons_succ] at v0 v1 b0 b1
      clear hgrow3 hown3 hB3 hV3
      go_wp2_with fail
      refine (HR.out _).mono ?_
      rintro e w4 ⟨rfl, rfl⟩
      cases hrb : rb with
      | false =>
        rw [hrb] at H1
        have HX := hide (firstOf_hit (n := n) hlt HA.out (H1.out rfl))
        clear H1 H2 H3
        go_wp2_with fail
        go_region
        go_wp2_with fail
        exact val_flt_ret (f := (9, p)) (g := w.heap.size) ((HB3.out.set_ 0 _).set_ 1 _) rfl rfl rfl rfl (.inl ⟨_, HX.out, rfl, (ext_two HE3.out _ _).drew'⟩)
      | true =>
        rw [hrb] at H2 H3
        have hl := HO3.out
        have hlen : k + 1 = ((nms ws).take (k + 1)).length := by rw [List.length_take, nms_length]; omega
        have hsa : StrAt w3 w3.heap.size A3 ((nms ws).take (k + 1)) := by
          unfold StrAt
          rw [← hlen]
          exact Reads.of_own HO3.out
        have HT := hide (twice_any A3 c3 (k + 1) _ w3 hsa hlen (by omega))
        obtain ⟨t, ht⟩ : ∃ t, t = twiceL ((nms ws).take (k + 1)) := ⟨_, rfl⟩
        rw [← ht] at HT H2 H3
        clear hl hlen hsa ht H1
        go_wp2_with fail
        refine HT.out.mono ?_
        rintro e w5 ⟨rfl, hE5⟩
        have HE5 := hide (HE3.out.trans' hE5)
        have hB5 := HB3.out.ext hE5
        have hV5 := HV3.out.ext hE5
        have HO5 := hide (own_ext HO3.out hE5)
        have fC3 := hB5.free 0
        have fC4 := hB5.free 1
        have c0 := hB5.cell 0
        have c1 := hB5.cell 1
        have u1 := hV5.cell 1
        simp only [List.getElem?_toArray, List.getElem?_cons_zero, List.getElem?_cons_succ] at c0 c1 u1
        have HB5 := hide hB5
        clear hB5 hV5 hE5 b0 b1 v0 v1 fB3 fB4
        by_cases h0 : t < 0
        · have hA := below_step HA.out (H3.out (by trivial) h0)
          have HA2 := hide hA
          clear hA H2 H3
          go_wp2_with fail
          go_roundw
          case rel => exact ⟨k + 1, A3, c3, by omega, by go_num, rfl, HE5.out, HB5.out, HO5.out, HA2.out⟩
          case measure => simp [intOf]; omega
        · have HX := hide (firstOf_hit (n := n) hlt HA.out (H2.out (by trivial) (by omega)))
          clear H2 H3
          go_wp2_with fail
          go_region
          go_wp2_with fail
          exact val_flt_ret (f := (10, p)) (g := w.heap.size) ((HB5.out.set_ 0 _).set_ 1 _) rfl rfl rfl rfl (.inl ⟨_, HX.out, rfl, (ext_two HE5.out _ _).drew'⟩)
    · obtain rfl : k = n := by omega
      have hX := firstOf_miss.2 HA.out
      have HX := hide hX
      have hlen : k = (nms ws).length := by rw [nms_length]; exact HN.out
      have hO' := hO
      rw [List.take_of_length_le (by omega)] at hO'
      have HO' := hide hO'
      have HL := hide hlen
      have b0 := hB.cell 0
      have b1 := hB.cell 1
      have f0 := hB.free 0
      have f1 := hB.free 1
      simp only [List.getElem?_toArray, List.getElem?_cons_zero, List.getElem?_cons_succ] at b0 b1
      clear hX hlen hO' hO hB hE
      go_wp2_with fail
      have hsa : ∀ u v, StrAt ((wr.setCell ⟨w.heap.size, 0, none⟩ u).setCell ⟨w.heap.size, 1, none⟩ v) ((wr.setCell ⟨w.heap.size, 0, none⟩ u).setCell ⟨w.heap.size, 1, none⟩ v).heap.size Ao (nms ws) := fun u v => by
        unfold StrAt
        rw [← HL.out]
        exact Reads.of_own (ownsRow_setCell_below (ownsRow_setCell_below HO'.out (by show w.heap.size < _; omega) u) (by show w.heap.size < _; omega) v)
      exact val_flt_ret (f := (0, 0)) (g := w.heap.size) ((HB.out.set_ 0 _).set_ 1 _) rfl rfl rfl rfl (.inr ⟨HX.out, _, _, rfl, hsa _ _, ext_two HE.out _ _⟩)
end Go.Proofs.YtpjlhpaenmfieaaGreat
