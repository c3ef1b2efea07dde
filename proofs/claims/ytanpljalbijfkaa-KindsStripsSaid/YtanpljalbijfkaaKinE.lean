/- kinds: slices.Equal of words, sameWords; the document's words, walked. -/
import Derived.Test.YtanpljalbijfkaaKinD
import Derived.Laws.StructEq
namespace Go.Proofs.Ytanpljalbijfkaa
open Go.RowKit

theorem two_of {α : Type} {l : List α} (h : l.length = 2) : ∃ a b, l = [a, b] := by
  match l, h with
  | [a, b], _ => exact ⟨a, b, rfl⟩
theorem run_eqIn_wd (a : ByteArray) (b : Int) (c : ByteArray) (d : Int) (w : World) : (Op.equalIn 10000 25 (.agg #[.string a, .int .i64 b]) (.agg #[.string c, .int .i64 d])).run Try.prog w = .ok (a.toList == c.toList && b == d) w := by
  rw [run_equalIn_struct w 9999 25 _ _ (by kernel_rfl) (by kernel_rfl)]
  obtain ⟨f1, f2, hf, h1, h2, h3, h4, h5, h6⟩ : ∃ f1 f2 : Field, (Try.prog.fieldsOf 25).toList = [f1, f2] ∧ f1.name ≠ "_" ∧ f2.name ≠ "_" ∧ f1.type = 9 ∧ f2.type = 3 ∧ f1.offset = 0 ∧ f2.offset = 1 := by
    have hm : (Try.prog.fieldsOf 25).toList.map (fun f => (f.name, f.type, f.offset)) = [("Name", 9, 0), ("At", 3, 1)] := by kernel_rfl
    obtain ⟨f1, f2, hl⟩ := two_of (show (Try.prog.fieldsOf 25).toList.length = 2 by have := congrArg List.length hm; simpa only [List.length_map, List.length_cons, List.length_nil] using this)
    rw [hl] at hm
    simp only [List.map_cons, List.map_nil, List.cons.injEq, Prod.mk.injEq, and_true] at hm
    obtain ⟨⟨a1, a2, a3⟩, b1, b2, b3⟩ := hm
    exact ⟨f1, f2, hl, by rw [a1]; decide, by rw [b1]; decide, a2, b2, a3, b3⟩
  have hp0 : ∀ (x : ByteArray) (y : Int), (part 9 #[.string x, .int .i64 y] 0).run Try.prog w = .ok (.string x) w := fun x y => by kernel_rfl
  have hp1 : ∀ (x : ByteArray) (y : Int), (part 3 #[.string x, .int .i64 y] 1).run Try.prog w = .ok (.int .i64 y) w := fun x y => by kernel_rfl
  have he : ∀ x y : ByteArray, (Op.equalIn 9999 9 (.string x) (.string y)).run Try.prog w = .ok (x.toList == y.toList) w := fun x y => run_equalIn_string w 9998 _ x y (by kernel_rfl)
  have he2 : ∀ x y : Int, (Op.equalIn 9999 3 (.int .i64 x) (.int .i64 y)).run Try.prog w = .ok (x == y) w := fun x y => run_equalIn_int w 9998 _ _ .i64 x y (by kernel_rfl)
  rw [hf]
  unfold Op.eqFields
  rw [if_pos h1, h3, h5]
  simp only [Sem.run_bind, hp0, Result.andThen_ok, he]
  cases hx : (a.toList == c.toList)
  · simp
  · simp only [Bool.not_true, Bool.false_eq_true, if_false]
    unfold Op.eqFields
    rw [if_pos h2, h4, h6]
    simp only [Sem.run_bind, hp1, Result.andThen_ok, he2]
    cases hy : (b == d)
    · simp
    · simp [Op.eqFields]

theorem below_st {P : Nat → Prop} {k : Nat} (h : ∀ j, j < k → P j) (hk : P k) : ∀ j, j < k + 1 → P j := fun j hj => by
  rcases Nat.lt_or_ge j k with h1 | h1
  · exact h j h1
  · obtain rfl : j = k := by omega
    exact hk
def wAt (l : List Wd) (k : Nat) : Wd := (wNm l k, wPl l k)
theorem wAt_get {l : List Wd} {k : Nat} (hk : k < l.length) : l[k] = wAt l k := by
  unfold wAt wNm wPl
  rw [List.getD_eq_getElem?_getD, List.getElem?_eq_getElem hk]
  rfl
theorem wds_eq {l m : List Wd} {n : Nat} (hl : n = l.length) (hm : n = m.length) : l = m ↔ ∀ k, k < n → wAt l k = wAt m k := by
  constructor
  · rintro rfl k _; rfl
  · intro h
    apply List.ext_getElem (by omega)
    intro i hi hj
    rw [wAt_get hi, wAt_get hj, h i (by omega)]
theorem nms_eq {l m : List Wd} {n : Nat} (hl : n = l.length) (hm : n = m.length) : nms l = nms m ↔ ∀ k, k < n → wNm l k = wNm m k := by
  constructor
  · intro h k hk
    rw [← nms_at (by rw [nms_length]; omega), ← nms_at (by rw [nms_length]; omega)]
    simp only [h]
  · intro h
    apply List.ext_getElem (by rw [nms_length, nms_length]; omega)
    intro i hi hj
    rw [nms_at hi, nms_at hj]
    exact h i (by rw [nms_length] at hi; omega)

set_option maxRecDepth 100000 in
set_option maxHeartbeats 2000000 in
theorem equalW_any (A : Option Addr) (c n : Nat) (l : List Wd) (A2 : Option Addr) (c2 n2 : Nat) (m : List Wd) (w : World) (h : WdsAt w w.heap.size A l) (hn : n = l.length) (hn' : n ≤ 5864062014634) (h2 : WdsAt w w.heap.size A2 m) (hn2 : n2 = m.length) :
    Calls Try.prog 41 #[.slice A n c, .slice A2 n2 c2] w (fun e w' => e = .returned (.bool (decide (l = m))) ∧ Ext w w') := by
  by_cases hln : n = n2
  · subst hln
    have hiff := wds_eq hn hn2
    have HYES := hide (fun (hh : ∀ k, k < n → wAt l k = wAt m k) => (decide_eq_true (hiff.2 hh)).symm)
    have HNO := hide (fun k (hk : k < n) (hh : ¬ wAt l k = wAt m k) => (show false = decide (l = m) from (decide_eq_false fun e => hh (hiff.1 e k hk)).symm))
    obtain ⟨R, hR⟩ : ∃ R, R = decide (l = m) := ⟨_, rfl⟩
    rw [← hR] at HYES HNO ⊢
    have HN := hide hn
    have HN2 := hide hn2
    have HL := hide h
    have HM := hide h2
    clear hn hn2 hiff hR h h2
    go_enter Try.func41, Try.ntmps41
    go_wp2_with fail
    go_loopw [13] (fun i wr => ∃ k : Nat, k ≤ n ∧ i = .int .i64 (k : Int) ∧ Ext w wr ∧ Hid (∀ j, j < k → wAt l j = wAt m j)) (fun i _ => n - (intOf i).toNat)
    case atStart => exact ⟨0, Nat.zero_le _, rfl, Ext.rfl' _, fun j hj => absurd hj (by omega)⟩
    case round =>
      obtain ⟨k, hk, rfl, hE, HA⟩ := hrel
      have HE := hide hE
      by_cases hkn : k < n
      · obtain ⟨b, o, rfl, hb, hc⟩ := HL.out.cell (by rw [← HN.out]; omega)
        obtain ⟨b', o', rfl, hb', hc'⟩ := HM.out.cell (by rw [← HN2.out]; omega)
        obtain ⟨p0, p1⟩ := hc k (by rw [← HN.out]; exact hkn)
        obtain ⟨r0, r1⟩ := hc' k (by rw [← HN2.out]; exact hkn)
        have q0 := (hE.cell (p := ⟨b, o + k * 2, none⟩) hb).trans p0
        have q1 := (hE.cell (p := ⟨b, o + k * 2 + 1, none⟩) hb).trans p1
        have s0 := (hE.cell (p := ⟨b', o' + k * 2, none⟩) hb').trans r0
        have s1 := (hE.cell (p := ⟨b', o' + k * 2 + 1, none⟩) hb').trans r1
        have hno := HNO.out k hkn
        have hw1 : wAt l k = (wNm l k, wPl l k) := rfl
        have hw2 : wAt m k = (wNm m k, wPl m k) := rfl
        have HA2 := hide (fun hh => below_st HA.out (show wAt l k = wAt m k from hh))
        rw [hw1, hw2] at hno HA2
        obtain ⟨x, hx⟩ : ∃ x, x = wNm l k := ⟨_, rfl⟩
        obtain ⟨y, hy⟩ : ∃ x, x = wPl l k := ⟨_, rfl⟩
        obtain ⟨x', hx'⟩ : ∃ x, x = wNm m k := ⟨_, rfl⟩
        obtain ⟨y', hy'⟩ : ∃ x, x = wPl m k := ⟨_, rfl⟩
        rw [← hx] at q0 hno HA2
        rw [← hy] at q1 hno HA2
        rw [← hx'] at s0 hno HA2
        rw [← hy'] at s1 hno HA2
        have hq := fun w => run_eqIn_wd x y x' y' w
        have hdec : (x.toList == x'.toList && y == y') = decide ((x, y) = (x', y')) := by
          rw [str_eq, Bool.eq_iff_iff]
          simp
        have i0 : (0 : Int) ≤ (k : Int) := by omega
        have i1 : (k : Int) < (n : Int) := by omega
        by_cases he : (x, y) = (x', y')
        · rw [decide_eq_true he] at hdec
          have hq2 : ∀ w, (Op.equalIn 10000 25 (.agg #[.string x, .int .i64 y]) (.agg #[.string x', .int .i64 y'])).run Try.prog w = .ok true w := fun w => by rw [hq w, hdec]
          have HA3 := hide (HA2.out he)
          clear hq hdec he hno HA HA2 hx hy hx' hy' p0 p1 r0 r1 hc hc' hw1 hw2 hE
          go_wp2_with fail
          go_quiet (fail)
          have hEq := below_drewN HE.out nq
          go_wp2_with fail
          go_roundw
          case rel => exact ⟨k + 1, by omega, by go_num, hEq, HA3⟩
          case measure => simp [intOf]; omega
        · have HX := hide (hno he)
          rw [decide_eq_false he] at hdec
          have hq2 : ∀ w, (Op.equalIn 10000 25 (.agg #[.string x, .int .i64 y]) (.agg #[.string x', .int .i64 y'])).run Try.prog w = .ok false w := fun w => by rw [hq w, hdec]
          clear hq hdec he hno HA HA2 hx hy hx' hy' p0 p1 r0 r1 hc hc' hw1 hw2 hE
          go_wp2_with fail
          go_quiet (fail)
          have hEq := below_drewN HE.out nq
          go_wp2_with fail
          go_ret
          exact ⟨ret_bool HX.out, hEq⟩
      · obtain rfl : k = n := by omega
        have HX := hide (HYES.out HA.out)
        clear HA hE
        go_wp2_with fail
        go_ret
        exact ⟨ret_bool HX.out, HE.out⟩
  · have HX := hide (show false = decide (l = m) from (decide_eq_false fun e => hln (by rw [hn, hn2, e])).symm)
    have hne : ((n : Int) != (n2 : Int)) = true := by simp; omega
    clear hn hn2 h h2
    go_enter Try.func41, Try.ntmps41
    go_wp2_with fail
    go_ret
    exact ⟨ret_bool HX.out, Ext.rfl' _⟩

set_option maxRecDepth 100000 in
theorem sameWords_any (A : Option Addr) (c n : Nat) (l : List Wd) (A2 : Option Addr) (c2 n2 : Nat) (m : List Wd) (w : World) (h : WdsAt w w.heap.size A l) (hn : n = l.length) (hn' : n ≤ 5864062014634) (h2 : WdsAt w w.heap.size A2 m) (hn2 : n2 = m.length) (hn2' : n2 ≤ 5864062014634) :
    Calls Try.prog 24 #[.slice A n c, .slice A2 n2 c2] w (fun e w' => e = .returned (.bool (wdsEq l m)) ∧ Ext w w') := by
  have H1 := hide (words_any A c n l w h hn hn')
  have H2 := hide (fun w1 (hE : Ext w w1) => words_any A2 c2 n2 m w1 (h2.ext hE) hn2 hn2')
  have HN := hide hn
  have HN2 := hide hn2
  have hb : decide (bareWs l = bareWs m) = wdsEq l m := by unfold wdsEq; rw [decide_eq_decide]; exact bareWs_eq
  obtain ⟨R, hR⟩ : ∃ R, R = wdsEq l m := ⟨_, rfl⟩
  rw [← hR] at hb ⊢
  have HB := hide hb
  clear hb hR
  clear h hn h2 hn2
  go_enter Try.func24, Try.ntmps24
  go_wp2_with fail
  refine H1.out.mono ?_
  rintro e w3 ⟨A3, c3, rfl, hW3, hE3⟩
  rw [← HN.out]
  have HW3 := hide hW3
  have HE3 := hide hE3
  have HC := hide (H2.out w3 hE3)
  clear hW3 hE3
  go_wp2_with fail
  refine HC.out.mono ?_
  rintro e w4 ⟨A4, c4, rfl, hW4, hE4⟩
  rw [← HN2.out]
  have HE4 := hide (HE3.out.trans' hE4)
  have HEQ := hide (equalW_any A3 c3 n (bareWs l) A4 c4 n2 (bareWs m) w4 (HW3.out.ext hE4) (by rw [bareWs_length]; exact HN.out) hn' hW4 (by rw [bareWs_length]; exact HN2.out))
  rw [HB.out] at HEQ
  clear hW4 hE4 HC H1 H2 HB
  go_wp2_with fail
  refine HEQ.out.mono ?_
  rintro e w5 ⟨rfl, hE5⟩
  have HE5 := hide (HE4.out.trans' hE5)
  clear hE5
  go_wp2_with fail
  go_ret
  exact ⟨rfl, HE5.out⟩

set_option maxRecDepth 100000 in
set_option maxHeartbeats 2000000 in
theorem refWords_any (A : Option Addr) (c n : Nat) (l : List Wd) (A2 : Option Addr) (c2 n2 : Nat) (m : List Wd) (w : World) (h : WdsAt w w.heap.size A l) (hn : n = l.length) (hn' : n ≤ 5864062014634) (h2 : WdsAt w w.heap.size A2 m) (hn2 : n2 = m.length) :
    Calls Try.prog 27 #[.slice A n c, .slice A2 n2 c2] w (fun e w' => e = .returned (.bool (wdsEq l m)) ∧ Ext w w') := by
  by_cases hln : n = n2
  · subst hln
    have hiff := nms_eq hn hn2
    have HYES := hide (fun (hh : ∀ k, k < n → wNm l k = wNm m k) => (show true = wdsEq l m from (decide_eq_true (hiff.2 hh)).symm))
    have HNO := hide (fun k (hk : k < n) (hh : ¬ wNm l k = wNm m k) => (show false = wdsEq l m from (decide_eq_false fun e => hh (hiff.1 e k hk)).symm))
    obtain ⟨R, hR⟩ : ∃ R, R = wdsEq l m := ⟨_, rfl⟩
    rw [← hR] at HYES HNO ⊢
    have HN := hide hn
    have HN2 := hide hn2
    have HL := hide h
    have HM := hide h2
    clear hn hn2 hiff hR h h2
    go_enter Try.func27, Try.ntmps27
    go_wp2_with fail
    go_loopw [5] (fun i wr => ∃ k : Nat, k ≤ n ∧ i = .int .i64 (k : Int) ∧ Ext w wr ∧ Hid (∀ j, j < k → wNm l j = wNm m j)) (fun i _ => n - (intOf i).toNat)
    case atStart => exact ⟨0, Nat.zero_le _, rfl, Ext.rfl' _, fun j hj => absurd hj (by omega)⟩
    case round =>
      obtain ⟨k, hk, rfl, hE, HA⟩ := hrel
      have HE := hide hE
      by_cases hkn : k < n
      · obtain ⟨b, o, rfl, hb, hc⟩ := HL.out.cell (by rw [← HN.out]; omega)
        obtain ⟨b', o', rfl, hb', hc'⟩ := HM.out.cell (by rw [← HN2.out]; omega)
        obtain ⟨p0, p1⟩ := hc k (by rw [← HN.out]; exact hkn)
        obtain ⟨r0, r1⟩ := hc' k (by rw [← HN2.out]; exact hkn)
        have q0 := (hE.cell (p := ⟨b, o + k * 2, none⟩) hb).trans p0
        have s0 := (hE.cell (p := ⟨b', o' + k * 2, none⟩) hb').trans r0
        have hno := HNO.out k hkn
        have HA2 := hide (fun hh => below_st HA.out (show wNm l k = wNm m k from hh))
        obtain ⟨x, hx⟩ : ∃ x, x = wNm l k := ⟨_, rfl⟩
        obtain ⟨x', hx'⟩ : ∃ x, x = wNm m k := ⟨_, rfl⟩
        rw [← hx] at q0 hno HA2
        rw [← hx'] at s0 hno HA2
        have hxy := str_eq x x'
        have i0 : (0 : Int) ≤ (k : Int) := by omega
        have i1 : (k : Int) < (n : Int) := by omega
        by_cases he : x = x'
        · have HA3 := hide (HA2.out he)
          subst he
          clear hxy hno HA HA2 hx hx' p0 p1 r0 r1 hc hc' hE
          go_wp2_with fail
          go_quiet (fail)
          have hEq := below_drewN HE.out nq
          go_wp2_with fail
          go_roundw
          case rel => exact ⟨k + 1, by omega, by go_num, hEq, HA3⟩
          case measure => simp [intOf]; omega
        · have HX := hide (hno he)
          have hne : (x.toList == x'.toList) = false := by rw [hxy]; simpa using he
          clear hxy he hno HA HA2 hx hx' p0 p1 r0 r1 hc hc' hE
          go_wp2_with fail
          go_quiet (fail)
          have hEq := below_drewN HE.out nq
          go_wp2_with fail
          go_ret
          exact ⟨ret_bool HX.out, hEq⟩
      · obtain rfl : k = n := by omega
        have HX := hide (HYES.out HA.out)
        clear HA hE
        go_wp2_with fail
        go_ret
        exact ⟨ret_bool HX.out, HE.out⟩
  · have HX := hide (show false = wdsEq l m from (decide_eq_false fun e => hln (by rw [hn, hn2, ← nms_length l, e, nms_length])).symm)
    have hne : ((n : Int) != (n2 : Int)) = true := by simp; omega
    clear hn hn2 h h2
    go_enter Try.func27, Try.ntmps27
    go_wp2_with fail
    go_ret
    exact ⟨ret_bool HX.out, Ext.rfl' _⟩
end Go.Proofs.Ytanpljalbijfkaa
