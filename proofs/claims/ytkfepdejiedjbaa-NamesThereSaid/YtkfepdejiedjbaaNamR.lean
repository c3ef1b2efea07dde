/- The document's Sorted. -/
import Derived.Test.YtkfepdejiedjbaaNamT
import Derived.BigRegion
namespace Go.Proofs.Ytkfepdejiedjbaa
open Go.RowKit

/-- A text on its way to where it belongs: what is ahead, itself, what is behind. -/
structure Way (l : List ByteArray) (i : Nat) (x : ByteArray) (P S : List ByteArray) : Prop where
  up : (P ++ S).Pairwise fun a b => bl a b = true
  mem : ∀ y, y ∈ P ++ S ↔ ∃ j, ∃ h : j < l.length, j < i ∧ l[j] = y
  new : ∀ y ∈ P ++ S, y ≠ x
  big : ∀ y ∈ S, bl x y = true

theorem way_step {l : List ByteArray} {i : Nat} {x q : ByteArray} {P S : List ByteArray} (h : Way l i x (P ++ [q]) S) (hlt : bl x q = true) : Way l i x P (q :: S) := by
  obtain ⟨h1, h2, h3, h4⟩ := h
  have e : P ++ [q] ++ S = P ++ q :: S := by simp
  rw [e] at h1 h2 h3
  exact ⟨h1, h2, h3, fun y hy => by
    rcases List.mem_cons.1 hy with rfl | hy
    · exact hlt
    · exact h4 y hy⟩
theorem way_end {l : List ByteArray} {i : Nat} {x : ByteArray} {P S : List ByteArray} (h : Way l i x P S) (hi : i < l.length) (hx : x = l[i]) (he : P = [] ∨ ∃ P' q, P = P' ++ [q] ∧ bl x q = false) :
    (P ++ x :: S).Pairwise (fun a b => bl a b = true) ∧ ∀ y, y ∈ P ++ x :: S ↔ ∃ j, ∃ h : j < l.length, j < i + 1 ∧ l[j] = y := by
  obtain ⟨h1, h2, h3, h4⟩ := h
  rw [List.pairwise_append] at h1
  obtain ⟨p1, p2, p3⟩ := h1
  have hP : ∀ y ∈ P, bl y x = true := by
    rcases he with rfl | ⟨P', q, rfl, hq⟩
    · simp
    · have hqx : bl q x = true := by
        rcases bl_total q x with h | h | h
        · exact h
        · exact absurd h (h3 q (by simp))
        · rw [hq] at h; cases h
      intro y hy
      rcases List.mem_append.1 hy with hy | hy
      · rw [List.pairwise_append] at p1
        exact bl_trans (p1.2.2 y hy q (by simp)) hqx
      · obtain rfl : y = q := by simpa using hy
        exact hqx
  refine ⟨?_, fun y => ⟨fun hy => ?_, fun hy => ?_⟩⟩
  · rw [List.pairwise_append]
    refine ⟨p1, List.pairwise_cons.2 ⟨h4, p2⟩, fun a ha b hb => ?_⟩
    rcases List.mem_cons.1 hb with rfl | hb
    · exact hP a ha
    · exact p3 a ha b hb
  · rcases List.mem_append.1 hy with hy | hy
    · obtain ⟨j, hj, hji, e⟩ := (h2 y).1 (by simp [hy])
      exact ⟨j, hj, by omega, e⟩
    · rcases List.mem_cons.1 hy with rfl | hy
      · exact ⟨i, hi, by omega, hx.symm⟩
      · obtain ⟨j, hj, hji, e⟩ := (h2 y).1 (by simp [hy])
        exact ⟨j, hj, by omega, e⟩
  · obtain ⟨j, hj, hji, e⟩ := hy
    by_cases hj' : j = i
    · subst hj'
      rw [← hx] at e
      subst e
      simp
    · have := (h2 y).2 ⟨j, hj, by omega, e⟩
      rcases List.mem_append.1 this with h | h
      · simp [h]
      · simp [h]

theorem findL_lt {l : List ByteArray} {i : Nat} (h : i < l.length) : findL l l[i] < (i : Int) ↔ ∃ j, ∃ hj : j < l.length, j < i ∧ l[j] = l[i] := by
  unfold findL
  cases hf : l.findIdx? (fun x => decide (x = l[i])) with
  | none =>
    rw [List.findIdx?_eq_none_iff] at hf
    have := hf l[i] (List.getElem_mem h)
    simp at this
  | some k =>
    rw [List.findIdx?_eq_some_iff_getElem] at hf
    obtain ⟨hk, hk1, hk2⟩ := hf
    have hk1' : l[k] = l[i] := by simpa using hk1
    constructor
    · intro hlt
      exact ⟨k, hk, by simpa using hlt, hk1'⟩
    · rintro ⟨j, hj, hji, e⟩
      show (k : Int) < i
      rcases Nat.lt_or_ge j k with h1 | h1
      · have := hk2 j h1
        simp at this
        exact absurd e this
      · omega

theorem strCells_swap (P S : List ByteArray) (q x : ByteArray) : ((strCells (P ++ [q] ++ x :: S)).set (P.length + 1) (.string q)).set P.length (.string x) = strCells (P ++ x :: q :: S) := by
  have e : strCells (P ++ [q] ++ x :: S) = strCells P ++ (.string q :: .string x :: strCells S) := by simp [strCells]
  have e2 : strCells (P ++ x :: q :: S) = strCells P ++ (.string x :: .string q :: strCells S) := by simp [strCells]
  have hl : P.length = (strCells P).length := by simp [strCells]
  rw [e, e2, hl, List.set_append_right _ _ (by omega), List.set_append_right _ _ (Nat.le_refl _), Nat.add_sub_cancel_left, Nat.sub_self]
  rfl
theorem strCells_at2 (P S : List ByteArray) (q x : ByteArray) : (strCells (P ++ [q] ++ x :: S))[P.length]? = some (.string q) ∧ (strCells (P ++ [q] ++ x :: S))[P.length + 1]? = some (.string x) := by
  have e : strCells (P ++ [q] ++ x :: S) = strCells P ++ (.string q :: .string x :: strCells S) := by simp [strCells]
  have hl : P.length = (strCells P).length := by simp [strCells]
  rw [e, hl]
  constructor
  · rw [List.getElem?_append_right (Nat.le_refl _), Nat.sub_self]; rfl
  · rw [List.getElem?_append_right (by omega), Nat.add_sub_cancel_left]; rfl
theorem strCells_at (P S : List ByteArray) (x : ByteArray) : (strCells (P ++ x :: S))[P.length]? = some (.string x) := by
  simp [strCells]

theorem own_cell1' {w : World} {base : Nat} {e : TypeId} {A : Option Addr} {n c : Nat} {xs : List Value} (h : w.ownsRow base e 1 (.slice A n c) n xs) (hn : 0 < n) :
    ∃ g, A = some ⟨g, 0, none⟩ ∧ base ≤ g ∧ g < w.heap.size ∧ (∀ j, j < n → w.cell? ⟨g, j, none⟩ = xs[j]?) ∧ ∀ j, w.frozen? ⟨g, j, none⟩ = false := by
  rcases h.2 with ⟨_, h0⟩ | ⟨g, cap, cur, hv, hg, hb, _⟩
  · omega
  · injection hv with h1 h2 h3
    subst h1; subst h3
    exact ⟨g, rfl, hg, (Array.getElem?_eq_some_iff.1 hb).1, fun j hj => h.cellAt j (by omega), fun j => h.frozenAt j⟩

/-- All unlike texts of the first i, by bytes. -/
def SortedTo (l : List ByteArray) (i : Nat) (R : List ByteArray) : Prop := R.Pairwise (fun a b => bl a b = true) ∧ ∀ y, y ∈ R ↔ ∃ j, ∃ h : j < l.length, j < i ∧ l[j] = y
theorem sortedTo_end {l R : List ByteArray} (h : SortedTo l l.length R) : SortedOf l R := by
  refine ⟨h.1, fun y => (h.2 y).trans ⟨?_, fun hy => ?_⟩⟩
  · rintro ⟨j, hj, _, rfl⟩; exact List.getElem_mem hj
  · obtain ⟨j, hj, rfl⟩ := List.getElem_of_mem hy
    exact ⟨j, hj, hj, rfl⟩
theorem sortedTo_skip {l R : List ByteArray} {i : Nat} (h : SortedTo l i R) (hi : i < l.length) (hf : findL l l[i] < (i : Int)) : SortedTo l (i + 1) R := by
  refine ⟨h.1, fun y => (h.2 y).trans ⟨?_, ?_⟩⟩
  · rintro ⟨j, hj, hji, e⟩; exact ⟨j, hj, by omega, e⟩
  · rintro ⟨j, hj, hji, e⟩
    by_cases hj' : j = i
    · subst hj'
      obtain ⟨j2, h1, h2, h3⟩ := (findL_lt hi).1 hf
      exact ⟨j2, h1, h2, by rw [h3, e]⟩
    · exact ⟨j, hj, by omega, e⟩
theorem way_start {l R : List ByteArray} {i : Nat} (h : SortedTo l i R) (hi : i < l.length) (hf : ¬ findL l l[i] < (i : Int)) : Way l i l[i] R [] := by
  refine ⟨by rw [List.append_nil]; exact h.1, fun y => by rw [List.append_nil]; exact h.2 y, fun y hy e => ?_, by simp⟩
  rw [List.append_nil] at hy
  obtain ⟨j, hj, hji, e2⟩ := (h.2 y).1 hy
  exact hf ((findL_lt hi).2 ⟨j, hj, hji, by rw [e2, e]⟩)

set_option maxRecDepth 100000 in
set_option maxHeartbeats 4000000 in
theorem refSorted_any (A : Option Addr) (c n : Nat) (l : List ByteArray) (w : World) (h : StrAt w w.heap.size A l) (hln : l.length = n) (hn : n ≤ 1000000) :
    Calls Try.prog 55 #[.slice A n c] w (SortedPost l w) := by
  have HST := hide h
  have HLN := hide hln
  clear h hln
  go_enter Try.func55, Try.ntmps55
  go_wp2_with fail
  go_loopw [4, 3] (fun i o wr => ∃ (k : Nat) (Ao : Option Addr) (co m : Nat) (R : List ByteArray), k ≤ n ∧ i = .int .i64 k ∧ o = .slice Ao m co ∧ m ≤ k ∧ Ext w wr ∧ wr.ownsRow w.heap.size 9 1 (.slice Ao m co) m (strCells R) ∧ Hid (m = R.length ∧ SortedTo l k R)) (fun i _ _ => n - (intOf i).toNat)
  case atStart => exact ⟨0, none, 0, 0, [], Nat.zero_le _, rfl, rfl, Nat.le_refl _, Ext.rfl' _, World.ownsRow_nil _ _ _ _, ⟨rfl, List.Pairwise.nil, fun y => ⟨fun h => by simp at h, fun ⟨j, _, h, _⟩ => absurd h (by omega)⟩⟩⟩
  case round =>
    obtain ⟨i, Ao, co, m, R, hi, rfl, rfl, hmi, hE, hO, HR⟩ := hrel
    have HE := hide hE
    have HO := hide hO
    have hsz := hE.size
    clear hO
    by_cases hlt : i < n
    · have hil : i < l.length := by rw [HLN.out]; exact hlt
      have hF := refFind_any A c l l[i] wr (HST.out.ext hE) (by rw [HLN.out]; omega)
      rw [HLN.out] at hF
      obtain ⟨b, o, rfl, hbs, hcell⟩ := HST.out.cell (by omega)
      have d1 := (hE.cell (p := ⟨b, o + i, none⟩) hbs).trans (hcell i hil)
      have hskip : findL l l[i] < (i : Int) → SortedTo l (i + 1) R := fun h => sortedTo_skip HR.out.2 hil h
      have hway : ¬ findL l l[i] < (i : Int) → Way l i l[i] R [] := fun h => way_start HR.out.2 hil h
      have hx0 : ∃ x, x = l[i] := ⟨_, rfl⟩
      obtain ⟨x, hx⟩ := hx0
      obtain ⟨r, hr⟩ : ∃ r, r = findL l l[i] := ⟨_, rfl⟩
      rw [← hr] at hF hskip hway
      rw [← hx] at d1 hF hway
      have HF := hide hF
      have HSKIP := hide hskip
      have HWAY := hide hway
      have HX := hide hx
      clear hF hskip hway hx hr hcell hE
      by_cases hr : r < (i : Int)
      · go_wp2_with (go_at_call 52; with_reducible refine HF.out.mono ?_; rintro e w' ⟨rfl, rfl⟩)
        go_roundw
        case rel => exact ⟨i + 1, Ao, co, m, R, by omega, by go_num, rfl, by omega, HE.out, HO.out, ⟨HR.out.1, HSKIP.out hr⟩⟩
        case measure => simp [intOf]; omega
      · have HW := hide (HWAY.out hr)
        go_wp2_with (first
          | (go_at_call 52; with_reducible refine HF.out.mono ?_; rintro e w' ⟨rfl, rfl⟩)
          | (at_builtin; refine wpList_append_S _ rfl _ _ rfl w.heap.size _ m R rfl wr.heap.size x _ rfl (HO.out.alloc _) (reads_at _ _ _ _ rfl) (by omega) (by simp; omega) ?_))
        intro A3 c3 w3 hown3 hgrow3 _
        have HE3 := hide (grown_ext' (w := w) (wr := wr) HE.out ((Ext.rfl' wr).alloc (Nat.le_refl _) _) hgrow3 HO.out (Nat.le_refl _))
        have HO3 := hide hown3
        clear hown3 hgrow3
        go_wp2_with fail
        obtain ⟨g, rfl, hg1, hg2, _, _⟩ := own_cell1' HO3.out (Nat.succ_pos _)
        clear hg2
        have HEND := hide (fun P S (hw : Way l i x P S) he => way_end hw (by rw [HLN.out]; exact hlt) HX.out he)
        have HMI := hide hmi
        have hm6 : m ≤ 1000000 := by omega
        clear hmi
        obtain ⟨wo, rfl⟩ : ∃ wo : World, wo = wr := ⟨_, rfl⟩
        go_loopw [5] (fun kv wx => ∃ (k : Nat) (P S : List ByteArray), kv = .int .i64 (k : Int) ∧ k ≤ m ∧ Ext w wx ∧ wx.ownsRow w.heap.size 9 1 (.slice (some ⟨g, 0, none⟩) (m + 1) c3) (m + 1) (strCells (P ++ x :: S)) ∧ Hid (Way l i x P S ∧ P.length + S.length = m ∧ k = P.length)) (fun kv _ => (intOf kv).toNat)
        case atStart => exact ⟨m, R, [], rfl, Nat.le_refl _, HE3.out, HO3.out, ⟨HW.out, by have := HR.out.1; simp; omega, HR.out.1⟩⟩
        case round =>
          obtain ⟨k, P, S, rfl, hkm, hE, hO, HP⟩ := hrel
          have HE := hide hE
          have HO := hide hO
          rcases List.eq_nil_or_concat P with hP | ⟨P', q, hP⟩
          · subst hP
            obtain rfl : k = 0 := HP.out.2.2
            have hres := HEND.out [] S HP.out.1 (.inl rfl)
            have HRES := hide hres
            have hS : S.length = m := by simpa using HP.out.2.1
            have HSL := hide hS
            clear hres hE hO hS
            go_wp2_with fail
            go_quiet (fail)
            go_wp2_with fail
            go_roundw
            case rel => exact ⟨i + 1, some ⟨g, 0, none⟩, c3, m + 1, [] ++ x :: S, by omega, by go_num, rfl, by have := HR.out.1; have := HMI.out; omega, below_drewN HE.out _, own_ext HO.out (below_drewN (Ext.rfl' _) _), ⟨by have := HSL.out; simp; omega, HRES.out⟩⟩
            case measure => simp [intOf]; omega
          · rw [List.concat_eq_append] at hP
            subst hP
            obtain ⟨j, hj⟩ : ∃ j, j = P'.length := ⟨_, rfl⟩
            obtain rfl : k = j + 1 := by have := HP.out.2.2; simp at this; omega
            obtain ⟨c0, c1⟩ := strCells_at2 P' S q x
            rw [← hj] at c0 c1
            have d1 := (hO.cellAt j (by omega)).trans c0
            have d2 := (hO.cellAt (j + 1) (by omega)).trans c1
            have f1 := hO.frozenAt j
            have f2 := hO.frozenAt (j + 1)
            have HJ := hide hj
            clear c0 c1 hj hE hO
            have hpos : (0 : Int) < (j : Int) + 1 := by omega
            have hw : IntKind.i64.wrap ((j : Int) + 1 - 1) = (j : Int) := by rw [Int.add_sub_cancel]; exact IntWalk.i64_in _ (by omega)
            cases hz : Op.bytesLess x.toList q.toList with
            | true =>
              have hws := way_step HP.out.1 hz
              have HWS := hide hws
              clear hws
              go_wp2_with fail
              go_quiet (fail)
              go_wp2_with fail
              go_roundw
              case rel =>
                have hsw := strCells_swap P' S q x
                rw [← HJ.out] at hsw
                refine ⟨j, P', q :: S, by go_num, by omega, ((below_drewN HE.out _).setCell (by show w.heap.size ≤ g; omega) _).setCell (by show w.heap.size ≤ g; omega) _, ?_, ⟨HWS.out, by have := HP.out.2.1; simp at this ⊢; omega, HJ.out⟩⟩
                rw [← hsw]
                exact ((((own_ext HO.out (below_drewN (Ext.rfl' _) _)).stored (j + 1) (.string q)).1).stored j (.string x)).1
              case measure => simp [intOf]
            | false =>
              have hres := HEND.out (P' ++ [q]) S HP.out.1 (.inr ⟨P', q, rfl, hz⟩)
              have HRES := hide hres
              clear hres
              go_wp2_with fail
              go_quiet (fail)
              go_wp2_with fail
              go_roundw
              case rel => exact ⟨i + 1, some ⟨g, 0, none⟩, c3, m + 1, (P' ++ [q]) ++ x :: S, by omega, by go_num, rfl, by have := HMI.out; omega, below_drewN HE.out _, own_ext HO.out (below_drewN (Ext.rfl' _) _), ⟨by have := HP.out.2.1; simp at this ⊢; omega, HRES.out⟩⟩
              case measure => simp [intOf]; omega
    · obtain rfl : n = i := by omega
      clear hE
      go_wp2_with fail
      go_ret
      have hs := HR.out.2
      rw [← HLN.out] at hs
      refine ⟨Ao, co, m, R, rfl, HR.out.1, ?_, sortedTo_end hs, HE.out⟩
      unfold StrAt
      rw [← HR.out.1]
      exact Reads.of_own HO.out
end Go.Proofs.Ytkfepdejiedjbaa
