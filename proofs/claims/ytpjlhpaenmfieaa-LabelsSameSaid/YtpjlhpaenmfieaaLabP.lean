/- The text of levels is read back, plain. -/
import Derived.Test.YtpjlhpaenmfieaaLabK
import Derived.Test.YtpjlhpaenmfieaaLabD
namespace Go.Proofs.Ytpjlhpaenmfieaa
open Go.RowKit

theorem drop_past (a : List UInt8) (c : UInt8) (R : List UInt8) : (a ++ c :: R).drop (a.length + 1) = R := by
  induction a with
  | nil => rfl
  | cons d a ih => rw [List.cons_append, List.length_cons, List.drop_succ_cons]; exact ih
theorem nameLen_app {a t : List UInt8} (h1 : nameLen a = a.length) (h0 : a ≠ []) (ht : t = [] ∨ ∃ c r, t = c :: r ∧ isSign c = false) : nameLen (a ++ t) = a.length := by
  cases a with
  | nil => exact absurd rfl h0
  | cons c r =>
    by_cases hc : isLetter c = true
    · rw [nameLen, if_pos hc] at h1
      rw [List.cons_append, nameLen, if_pos hc, ← List.cons_append, List.takeWhile_append, if_pos h1, List.length_append]
      have : (t.takeWhile isSign).length = 0 := by
        rcases ht with rfl | ⟨d, r', rfl, hd⟩
        · rfl
        · rw [List.takeWhile_cons, if_neg (by rw [hd]; decide)]; rfl
      omega
    · rw [nameLen, if_neg hc] at h1
      simp at h1
theorem right_parts {s : ByteArray} (h : rightB s = true) : nameLen s.data.toList = s.data.toList.length ∧ s.data.toList ≠ [] ∧ s.data.toList.length ≤ 32 := by
  unfold rightB at h
  have := of_decide_eq_true h
  have e : s.data.toList.length = s.size := by rw [Array.length_toList]; rfl
  refine ⟨?_, ?_, by omega⟩
  · rw [e]; exact this.2.1
  · intro h0; rw [h0] at e; simp at e; omega
theorem findL_own {ws : List Wd} {k : Nat} (hk : k < ws.length) (h : nameBad ws k = none) : findL (nms ws) (wNm ws k) = k := by
  have hkl : k < (nms ws).length := by rw [nms_length]; exact hk
  have hge : ¬ findL (nms ws) (wNm ws k) < (k : Int) := by
    unfold nameBad at h
    by_cases hr : rightB (wNm ws k) = false
    · rw [if_pos hr] at h; cases h
    · rw [if_neg hr] at h
      intro hl
      rw [if_pos hl] at h; cases h
  have hat : (nms ws)[k] = wNm ws k := nms_at ..
  unfold findL at hge ⊢
  cases hf : (nms ws).findIdx? (fun x => decide (x = wNm ws k)) with
  | none =>
    rw [List.findIdx?_eq_none_iff] at hf
    have := hf (nms ws)[k] (List.getElem_mem hkl)
    rw [hat] at this
    simp at this
  | some i =>
    rw [hf] at hge
    obtain ⟨hi, _, hmin⟩ := List.findIdx?_eq_some_iff_getElem.1 hf
    have : ¬ k < i := fun hki => by
      have := hmin k hki
      rw [hat] at this
      simp at this
    have hge' : ¬ (i : Int) < (k : Int) := hge
    show (i : Int) = (k : Int)
    omega
theorem parseF_text {ws : List Wd} {os : List (Wd × Wd)} (gd : GoodL ws os) (s : ByteArray) : ∀ (l : List Nat) (k : Nat) (f i : Nat) (acc : List Nat), (∀ x ∈ k :: l, x < ws.length) → s.data.toList.drop i = Lib.join (((k :: l).map (wNm ws)).map (·.data.toList)) [43] → i ≤ s.size → l.length < f → parseF ws s f i acc = (acc ++ k :: l, (0, 0)) := by
  intro l
  induction l with
  | nil =>
    intro k f i acc hlt hd hi hf
    obtain ⟨f, rfl⟩ : ∃ g, f = g + 1 := ⟨f - 1, by simp at hf; omega⟩
    have hk := hlt k (by simp)
    have hbad := gd.named k hk
    have hr : rightB (wNm ws k) = true := by
      unfold nameBad at hbad
      by_cases hr : rightB (wNm ws k) = false
      · rw [if_pos hr] at hbad; cases hbad
      · simpa using hr
    obtain ⟨h1, h0, h32⟩ := right_parts hr
    rw [List.map_cons, List.map_nil, List.map_cons, List.map_nil, Lib.join_one] at hd
    have hn : nameAt s i = (wNm ws k).data.toList.length := by
      show nameLen (s.data.toList.drop i) = _
      rw [hd, h1]
    have hsl : s.data.toList.length = s.size := by rw [Array.length_toList]; rfl
    have hlen := congrArg List.length hd
    rw [List.length_drop, hsl] at hlen
    have hpn : pName s i = wNm ws k := by
      have : (pName s i).data.toList = (wNm ws k).data.toList := by rw [pName_list, hd, hn, List.take_length]
      apply ByteArray.ext
      exact Array.toList_inj.1 this
    have hpos : 0 < (wNm ws k).data.toList.length := List.length_pos_iff.2 h0
    have hb : pBad ws s i = none := by
      unfold pBad
      rw [if_neg (by omega), hpn, findL_own hk hbad, if_neg (by omega), if_neg (by omega)]
    rw [parseF, hb]
    simp only []
    rw [if_pos (by omega)]
    unfold pIdx
    rw [hpn, findL_own hk hbad]
    rfl
  | cons k2 l ih =>
    intro k f i acc hlt hd hi hf
    obtain ⟨f, rfl⟩ : ∃ g, f = g + 1 := ⟨f - 1, by simp at hf; omega⟩
    have hk := hlt k (by simp)
    have hbad := gd.named k hk
    have hr : rightB (wNm ws k) = true := by
      unfold nameBad at hbad
      by_cases hr : rightB (wNm ws k) = false
      · rw [if_pos hr] at hbad; cases hbad
      · simpa using hr
    obtain ⟨h1, h0, h32⟩ := right_parts hr
    have hj : Lib.join (((k :: k2 :: l).map (wNm ws)).map (·.data.toList)) [43] = (wNm ws k).data.toList ++ 43 :: Lib.join (((k2 :: l).map (wNm ws)).map (·.data.toList)) [43] := by
      rw [List.map_cons, List.map_cons, Lib.join_cons, List.map_cons, List.map_cons, Lib.join_cons]
      simp [Lib.joinTail]
    rw [hj] at hd
    obtain ⟨R, hR⟩ : ∃ R, R = Lib.join (((k2 :: l).map (wNm ws)).map (·.data.toList)) [43] := ⟨_, rfl⟩
    rw [← hR] at hd
    have hn : nameAt s i = (wNm ws k).data.toList.length := by
      show nameLen (s.data.toList.drop i) = _
      rw [hd]
      exact nameLen_app h1 h0 (.inr ⟨43, R, rfl, by decide⟩)
    have hsl : s.data.toList.length = s.size := by rw [Array.length_toList]; rfl
    have hlen := congrArg List.length hd
    rw [List.length_drop, hsl, List.length_append, List.length_cons] at hlen
    have hpn : pName s i = wNm ws k := by
      have : (pName s i).data.toList = (wNm ws k).data.toList := by rw [pName_list, hd, hn, List.take_left]
      apply ByteArray.ext
      exact Array.toList_inj.1 this
    have hpos : 0 < (wNm ws k).data.toList.length := List.length_pos_iff.2 h0
    have hdrop : ∀ j, s.data.toList.drop (i + j) = (s.data.toList.drop i).drop j := fun j => by rw [List.drop_drop]
    have hb43 : byteN s (i + nameAt s i) = 43 := by
      have hx : s.data.toList[i + nameAt s i]? = some 43 := by
        have := congrArg (fun t => t[(wNm ws k).data.toList.length]?) hd
        simp only [List.getElem?_drop] at this
        rw [hn, this, List.getElem?_append_right (Nat.le_refl _)]
        simp
      unfold byteN
      rw [List.getD_eq_getElem?_getD, hx]
      rfl
    have hb : pBad ws s i = none := by
      unfold pBad
      rw [if_neg (by omega), hpn, findL_own hk hbad, if_neg (by omega), if_neg (fun h => h.2 hb43)]
    rw [parseF, hb]
    simp only []
    rw [if_neg (by omega)]
    have hnext : s.data.toList.drop (i + nameAt s i + 1) = R := by
      rw [show i + nameAt s i + 1 = i + ((wNm ws k).data.toList.length + 1) by omega, hdrop, hd]
      exact drop_past _ _ _
    rw [ih k2 f (i + nameAt s i + 1) _ (fun x hx => hlt x (by simp at hx ⊢; right; exact hx)) (by rw [hnext, hR]) (by omega) (by simp at hf; omega)]
    unfold pIdx
    rw [hpn, findL_own hk hbad]
    simp
theorem parse_text {ws : List Wd} {os : List (Wd × Wd)} (gd : GoodL ws os) {H : List Nat} (h0 : H ≠ []) (hlt : ∀ x ∈ H, x < ws.length) (hs : H.length ≤ (textS ws H).size + 1) : parseL ws (textS ws H) = (H, (0, 0)) := by
  obtain ⟨k, l, rfl⟩ := List.exists_cons_of_ne_nil h0
  unfold parseL
  rw [parseF_text gd (textS ws (k :: l)) l k ((textS ws (k :: l)).size + 1) 0 [] hlt (by
    rw [List.drop_zero]
    unfold textS joinS
    simp) (Nat.zero_le _) (by simp at hs; omega)]
  simp
end Go.Proofs.Ytpjlhpaenmfieaa
