/- solve: the document's from, Comes, walked. -/
import Derived.Test.YtpjlhpaenmfieaaGreatSolRf
import Derived.Test.YtpjlhpaenmfieaaGreatSolPl
import Derived.Test.YtpjlhpaenmfieaaGreatRelAll
namespace Go.Proofs.YtpjlhpaenmfieaaGreat
open Go.RowKit

def fromI (Q : Int → Int → Bool) (rs : List Ru) (lvl p : Int) : Int := match fIdx (lowAt Q rs lvl p) rs.length with | some i => (i : Int) | none => -1
theorem fromI_hit {Q : Int → Int → Bool} {rs : List Ru} {lvl p : Int} {k : Nat} (hk : k < rs.length) (h0 : ∀ j, j < k → lowAt Q rs lvl p j = false) (h : lowAt Q rs lvl p k = true) : fromI Q rs lvl p = k := by
  unfold fromI
  rw [fIdx_hit hk h0 h]
theorem fromI_miss {Q : Int → Int → Bool} {rs : List Ru} {lvl p : Int} (h0 : ∀ j, j < rs.length → lowAt Q rs lvl p j = false) : fromI Q rs lvl p = -1 := by
  unfold fromI
  rw [fIdx_miss h0]
theorem lowAt_iff {Q : Int → Int → Bool} {rs : List Ru} {lvl p : Int} {i : Nat} : lowAt Q rs lvl p i = true ↔ (rl rs i).1 = 1 ∧ (rl rs i).2.2 = p ∧ Q (rl rs i).2.1 lvl = false := by
  unfold lowAt
  rw [Bool.and_eq_true, Bool.and_eq_true, decide_eq_true_eq, decide_eq_true_eq, Bool.not_eq_true', and_assoc]
theorem fromI_zero {Q : Int → Int → Bool} {rs : List Ru} {lvl p : Int} : 0 ≤ fromI Q rs lvl p ↔ startsB Q rs p 0 lvl = true := by
  rw [starts_zero]
  unfold fromI
  constructor
  · intro h
    cases hf : fIdx (lowAt Q rs lvl p) rs.length with
    | none => rw [hf] at h; exact absurd h (by decide)
    | some i =>
      unfold fIdx at hf
      have hm := List.mem_range.1 (List.mem_of_find?_eq_some hf)
      have hp := lowAt_iff.1 (List.find?_some hf)
      exact ⟨i, hm, hp⟩
  · rintro ⟨i, hi, h⟩
    cases hf : fIdx (lowAt Q rs lvl p) rs.length with
    | none =>
      unfold fIdx at hf
      rw [List.find?_eq_none] at hf
      exact absurd (lowAt_iff.2 h) (hf i (List.mem_range.2 hi))
    | some i => simp
/-- Does a row lead to a place, place by place. -/
def comesTo (Q : Int → Int → Bool) (rs : List Ru) (lvl : Int) (now : List Int) (k : Nat) : Bool := (List.range k).any fun (j : Nat) => hasV now (j : Int) && decide (0 ≤ fromI Q rs lvl (j : Int))
theorem comes_starts {Q : Int → Int → Bool} {rs : List Ru} {lvl p : Int} {d N : Nat} (hb : ∀ i, i < rs.length → (rl rs i).1 = 1 → inZ (rl rs i).2.2 N = true) : startsB Q rs p d lvl = comesTo Q rs lvl (nowAt rs p d) N := by
  rw [Bool.eq_iff_iff, startsB_iff]
  unfold comesTo
  rw [List.any_eq_true]
  constructor
  · rintro ⟨i, h1, h2, h3, h4⟩
    have := inZ_iff.1 (hb i h1 h2)
    refine ⟨(rl rs i).2.2.toNat, List.mem_range.2 (by omega), ?_⟩
    have e : (((rl rs i).2.2.toNat : Nat) : Int) = (rl rs i).2.2 := by omega
    rw [e, Bool.and_eq_true, hasV_iff, decide_eq_true_eq, fromI_zero, starts_zero]
    exact ⟨h3, i, h1, h2, rfl, h4⟩
  · rintro ⟨j, hj, h⟩
    rw [Bool.and_eq_true, hasV_iff, decide_eq_true_eq, fromI_zero, starts_zero] at h
    obtain ⟨h0, i, h1, h2, h3, h4⟩ := h
    exact ⟨i, h1, h2, by rw [h3]; exact h0, h4⟩
theorem comesTo_hit {Q : Int → Int → Bool} {rs : List Ru} {lvl : Int} {now : List Int} {k N : Nat} (hk : k < N) (h1 : hasV now (k : Int) = true) (h2 : 0 ≤ fromI Q rs lvl (k : Int)) : comesTo Q rs lvl now N = true := by
  unfold comesTo
  rw [List.any_eq_true]
  exact ⟨k, List.mem_range.2 hk, by rw [h1, decide_eq_true h2]; rfl⟩
theorem comesTo_miss {Q : Int → Int → Bool} {rs : List Ru} {lvl : Int} {now : List Int} {N : Nat} (h : ∀ j : Nat, j < N → (hasV now (j : Int) && decide (0 ≤ fromI Q rs lvl (j : Int))) = false) : comesTo Q rs lvl now N = false := by
  unfold comesTo
  rw [List.any_eq_false]
  intro j hj
  rw [h j (List.mem_range.1 hj)]
  decide

set_option maxRecDepth 100000 in
set_option maxHeartbeats 2000000 in
theorem from_any (A : Option Addr) (cp n : Nat) (M : List (List Bool)) (ws : List Wd) (os : List (Wd × Wd)) (A2 : Option Addr) (c2 m : Nat) (rs : List Ru) (lv : Nat) (p : Int) (w : World) (h : MatAt w w.heap.size A M) (hsq : ∀ r ∈ M, r.length = M.length) (hn : n = M.length) (hnw : n = ws.length) (hMT : mat M = leqL ws os) (hr : RlsAt w w.heap.size A2 rs) (hm : m = rs.length) (hm' : m ≤ 1000000) (hlv : lv < n) (hlow : ∀ i, i < rs.length → (rl rs i).1 = 1 → inZ (rl rs i).2.1 n = true) :
    Calls Tryz.prog 98 #[.slice A n cp, .slice A2 m c2, .int .i64 p, .int .i64 (lv : Nat)] w (fun e w' => e = .returned (.int .i64 (fromI (leqI ws os) rs lv p)) ∧ w = w') := by
  obtain ⟨b0, o0, rfl, _, hrow⟩ := h.form hsq (by omega)
  rw [← hn] at hrow
  have HROW := hide hrow
  have HLOW := hide hlow
  have HM := hide hm
  have HQ := hide (fun (a : Nat) (ha : a < n) => (show leqI ws os a lv = mat M a lv by rw [hMT]; exact leqI_cast (by rw [← hnw]; exact ha) (by rw [← hnw]; exact hlv)))
  have HRS := hide hr
  have i2 : (0 : Int) ≤ (lv : Int) := by omega
  have i3 : (lv : Int) < (n : Int) := by omega
  obtain ⟨Q, hQ⟩ : ∃ Q, Q = leqI ws os := ⟨_, rfl⟩
  rw [← hQ] at HQ ⊢
  clear hrow h hsq hn hnw hMT hr hm hlow hQ
  go_enter Tryz.func98, Tryz.ntmps98
  go_wp2_with fail
  go_loop [9] (fun i => ∃ k : Nat, k ≤ m ∧ i = .int .i64 (k : Int) ∧ Hid (∀ j, j < k → lowAt Q rs lv p j = false)) (fun i => m - (intOf i).toNat)
  case atStart => exact ⟨0, Nat.zero_le _, rfl, fun j hj => absurd hj (by omega)⟩
  case round =>
    obtain ⟨k, hk, rfl, HA⟩ := hrel
    by_cases hkm : k < m
    · have hkl : k < rs.length := by rw [← HM.out]; exact hkm
      obtain ⟨b, o, rfl, hbs, hcell⟩ := HRS.out.cell (by omega)
      obtain ⟨q0, q1, q2⟩ := hcell k hkl
      have hlow := HLOW.out k hkl
      have hla : lowAt Q rs lv p k = ((decide ((rl rs k).1 = 1) && decide ((rl rs k).2.2 = p)) && !Q (rl rs k).2.1 lv) := rfl
      obtain ⟨r, hr⟩ : ∃ r, r = rl rs k := ⟨_, rfl⟩
      rw [← hr] at q0 q1 q2 hlow hla
      obtain ⟨r0, r1, r2⟩ := r
      simp only at q0 q1 q2 hlow hla
      have i0 : (0 : Int) ≤ (k : Int) := by omega
      have i1 : (k : Int) < (m : Int) := by omega
      by_cases h1 : r0 = 1
      · have ha := hlow h1
        rw [inZ_iff] at ha
        obtain ⟨a', rfl⟩ := Int.eq_ofNat_of_zero_le ha.1
        have han : a' < n := by omega
        subst h1
        by_cases h2 : r2 = p
        · obtain ⟨ba, oa, ca, fa, _, ga⟩ := HROW.out a' han
          have xa := ga lv hlv
          have hq := HQ.out a' han
          obtain ⟨v, hv⟩ : ∃ v, v = mat M a' lv := ⟨_, rfl⟩
          rw [← hv] at xa hq
          rw [hq, decide_eq_true h2] at hla
          have i4 : (0 : Int) ≤ (a' : Int) := by omega
          have i5 : (a' : Int) < (n : Int) := by omega
          subst h2
          clear ga hv hq hlow ha hcell hr
          cases v with
          | false =>
            have HX := hide (fromI_hit hkl HA.out hla)
            clear hla hkl
            go_wp2_with fail
            go_ret
            exact ⟨ret_int HX.out.symm, rfl⟩
          | true =>
            have HA2 := hide (below_step HA.out hla)
            clear hla HA hkl
            go_wp2_with fail
            go_round
            case rel => exact ⟨k + 1, by omega, by go_num, HA2⟩
            case measure => simp [intOf]; omega
        · have hne : (r2 == p) = false := by simpa using h2
          rw [decide_eq_false h2, Bool.and_false, Bool.false_and] at hla
          have HA2 := hide (below_step HA.out hla)
          clear hla HA hkl h2 hlow ha hcell hr
          go_wp2_with fail
          go_round
          case rel => exact ⟨k + 1, by omega, by go_num, HA2⟩
          case measure => simp [intOf]; omega
      · have hne : (r0 == 1) = false := by simpa using h1
        rw [decide_eq_false h1, Bool.false_and, Bool.false_and] at hla
        have HA2 := hide (below_step HA.out hla)
        clear hla HA hkl h1 hlow hcell hr
        go_wp2_with fail
        go_round
        case rel => exact ⟨k + 1, by omega, by go_num, HA2⟩
        case measure => simp [intOf]; omega
    · obtain rfl : k = m := by omega
      have HX := hide (fromI_miss (by rw [← HM.out]; exact HA.out))
      clear HA
      go_wp2_with fail
      go_ret
      exact ⟨ret_int HX.out.symm, rfl⟩

theorem inZ_more {i : Int} {m k : Nat} (h : inZ i m = true) (hk : m ≤ k) : inZ i k = true := by
  rw [inZ_iff] at h ⊢
  omega
set_option maxRecDepth 100000 in
set_option maxHeartbeats 2000000 in
theorem comes_any (A : Option Addr) (cp n : Nat) (M : List (List Bool)) (ws : List Wd) (os : List (Wd × Wd)) (A2 : Option Addr) (c2 z m : Nat) (rs : List Ru) (lv p d : Nat) (w : World) (h : MatAt w w.heap.size A M) (hsq : ∀ r ∈ M, r.length = M.length) (hn : n = M.length) (hnw : n = ws.length) (hMT : mat M = leqL ws os) (hr : RlsAt w w.heap.size A2 rs) (hz : z = rs.length) (hz' : z ≤ 1000000) (hlv : lv < n) (hp : p < m) (hm : m ≤ 64) (hd : d ≤ 1000000) (hfit : ∀ r ∈ rs, rightR n m r = true) :
    Calls Tryz.prog 65 #[.slice A n cp, .slice A2 z c2, .int .i64 (p : Nat), .int .i64 (lv : Nat), .int .i64 (d : Nat)] w (fun e w' => e = .returned (.bool (startsB (leqI ws os) rs p d lv)) ∧ Ext w w') := by
  have hlow : ∀ i, i < rs.length → (rl rs i).1 = 1 → inZ (rl rs i).2.1 n = true ∧ inZ (rl rs i).2.2 m = true := fun i hi h1 => by
    have h := hfit _ (rl_mem hi)
    unfold rightR at h
    rw [if_pos h1, Bool.and_eq_true] at h
    exact h
  obtain ⟨k64, hk64⟩ : ∃ k : Nat, k = 64 := ⟨_, rfl⟩
  have hflow : ∀ i, i < rs.length → (rl rs i).1 = 2 → inZ (rl rs i).2.1 k64 = true ∧ inZ (rl rs i).2.2 k64 = true := fun i hi h1 => by
    have h := hfit _ (rl_mem hi)
    unfold rightR at h
    rw [if_neg (by omega), if_pos h1, Bool.and_eq_true] at h
    exact ⟨inZ_more h.1 (by omega), inZ_more h.2 (by omega)⟩
  have hre := reach_any A2 c2 z rs k64 p d w hr hz hz' (by omega) (by omega) hd hflow
  rw [show (k64 : Int) = 64 by omega] at hre
  have HRE := hide hre
  clear hre
  have HFR := hide (fun (w1 : World) (hE : Ext w w1) (q : Int) => from_any A cp n M ws os A2 c2 z rs lv q w1 (h.below hE hE.size) hsq hn hnw hMT (hr.ext hE) hz hz' hlv (fun i hi h1 => (hlow i hi h1).1))
  have HST := hide (comes_starts (Q := leqI ws os) (rs := rs) (lvl := (lv : Int)) (p := (p : Int)) (d := d) (fun i hi h1 => inZ_more (hlow i hi h1).2 (show m ≤ k64 by omega)))
  obtain ⟨now, hnow⟩ : ∃ l, l = nowAt rs (p : Int) d := ⟨_, rfl⟩
  rw [← hnow] at HRE HST
  obtain ⟨Q, hQ⟩ : ∃ Q, Q = leqI ws os := ⟨_, rfl⟩
  rw [← hQ] at HFR HST ⊢
  obtain ⟨S, hS⟩ : ∃ S, S = startsB Q rs (p : Int) d (lv : Int) := ⟨_, rfl⟩
  rw [← hS] at HST ⊢
  have HK := hide hk64
  have hkb : k64 ≤ 64 := by omega
  clear hk64 hz hlow hflow h hsq hn hnw hMT hr hfit hnow hQ hS
  go_enter Tryz.func65, Tryz.ntmps65
  go_wp2_with fail
  refine HRE.out.mono ?_
  rintro e wi ⟨g, rfl, hI⟩
  have HI := hide hI
  have HE := hide hI.2.1
  clear hI
  go_wp2_with fail
  go_loop [12] (fun i => ∃ k : Nat, k ≤ k64 ∧ i = .int .i64 (k : Int) ∧ Hid (∀ j : Nat, j < k → (hasV now (j : Int) && decide (0 ≤ fromI Q rs lv (j : Int))) = false)) (fun i => k64 - (intOf i).toNat)
  case atStart => exact ⟨0, Nat.zero_le _, rfl, fun j hj => absurd hj (by omega)⟩
  case round =>
    obtain ⟨k, hk, rfl, HA⟩ := hrel
    by_cases hkm : k < k64
    · have hc := HI.out.cell k hkm
      have HF := hide (HFR.out wi HE.out k)
      obtain ⟨f, hf⟩ : ∃ f, f = fromI Q rs lv (k : Int) := ⟨_, rfl⟩
      obtain ⟨v, hv⟩ : ∃ v, v = hasV now (k : Int) := ⟨_, rfl⟩
      rw [← hf] at HF
      rw [← hv] at hc
      have HFF := hide hf
      have HVV := hide hv
      have i0 : (0 : Int) ≤ (k : Int) := by omega
      have i1 : (k : Int) < (k64 : Int) := by omega
      clear hf hv
      cases v with
      | false =>
        have HA2 := hide (below_step HA.out (show (hasV now (k : Int) && decide (0 ≤ fromI Q rs lv (k : Int))) = false by rw [← HVV.out]; rfl))
        clear HA
        go_wp2_with fail
        go_round
        case rel => exact ⟨k + 1, by omega, by go_num, HA2⟩
        case measure => simp [intOf]; omega
      | true =>
        by_cases hf0 : 0 ≤ f
        · have HX := hide (comesTo_hit hkm HVV.out.symm (by rw [← HFF.out]; exact hf0))
          go_wp2_with fail
          refine HF.out.mono ?_
          rintro e w' ⟨rfl, rfl⟩
          go_wp2_with fail
          go_ret
          exact ⟨ret_bool (by rw [HST.out, HX.out]), HE.out⟩
        · have HA2 := hide (below_step HA.out (show (hasV now (k : Int) && decide (0 ≤ fromI Q rs lv (k : Int))) = false by rw [← HFF.out, decide_eq_false hf0, Bool.and_false]))
          clear HA
          go_wp2_with fail
          refine HF.out.mono ?_
          rintro e w' ⟨rfl, rfl⟩
          go_wp2_with fail
          go_round
          case rel => exact ⟨k + 1, by omega, by go_num, HA2⟩
          case measure => simp [intOf]; omega
    · obtain rfl : k = k64 := by omega
      have HX := hide (comesTo_miss HA.out)
      clear HA
      go_wp2_with fail
      go_ret
      exact ⟨ret_bool (by rw [HST.out, HX.out]), HE.out⟩
end Go.Proofs.YtpjlhpaenmfieaaGreat
/- solve: the document's Row, Why, walked. -/
namespace Go.Proofs.YtpjlhpaenmfieaaGreat
open Go.RowKit

theorem natCells_oneCell (l : List Nat) : ∀ u ∈ natCells l, u.oneCell' = true := by
  intro u hu
  unfold natCells at hu
  obtain ⟨k, _, rfl⟩ := List.mem_map.1 hu
  rfl
/-- append of numbers onto an own row. -/
theorem wpList_append_Nats (w : World) {ops : Array Oper} {rest : List Oper} {o : Oper} {a : Act} {Q : Exit → Act → World → Prop} (hgd : o.guard = none) (s x : Operand)
    (ho : o.op = .call { callee := .builtin .append, args := #[s, x], argTypes := #[34, 34] })
    (base : Nat) (v : Value) (n : Nat) (l : List Nat) (hs : a.eval s = v) (B : Nat) (A : Option Addr) (m c : Nat) (l2 : List Nat) (hx : a.eval x = .slice A m c)
    (hown : w.ownsRow base 3 1 v n (natCells l)) (hr : Reads w B 1 A m (natCells l2)) (hn : n + m ≤ 1000000) (hbase : base ≤ w.heap.size)
    (h : ∀ A' c' w', w'.ownsRow base 3 1 (.slice A' (n + m) c') (n + m) (natCells (l ++ l2)) → w.grownBy w' v.ownBlock → (Value.ownBlock (.slice A' (n + m) c') = v.ownBlock ∨ Value.ownBlock (.slice A' (n + m) c') = some w.heap.size) → wpList Tryz.prog ops Q rest (a.put o.dst (.slice A' (n + m) c')) w') : wpList Tryz.prog ops Q (o :: rest) a w := by
  obtain ⟨i0, hi, hz, hs2, hb⟩ := info_int
  have e : natCells (l ++ l2) = natCells l ++ natCells l2 := by simp [natCells]
  rw [e] at h
  exact wpList_append_sl w hgd s x 34 ho base 3 i0 _ 1 8 Tryz.underlying34 hi hz hs2 hb rfl (by decide) v n (natCells l) hs hown B A m c (natCells l2) hx hr (natCells_oneCell _) (by unfold maxLen; omega) (by omega) hbase h

def rowD (Q : Int → Int → Bool) (rs : List Ru) (lvl : Int) (d : Nat) (p : Int) : List Nat := (rowP Q rs lvl d p).1 ++ (fIdx (lowAt Q rs lvl (rowP Q rs lvl d p).2) rs.length).toList
theorem rowD_zero {Q : Int → Int → Bool} {rs : List Ru} {lvl p : Int} {i : Nat} (h : fIdx (lowAt Q rs lvl p) rs.length = some i) : rowD Q rs lvl 0 p = [i] := by
  unfold rowD
  show [] ++ (fIdx (lowAt Q rs lvl p) rs.length).toList = [i]
  rw [h]
  rfl
theorem rowD_hit {Q : Int → Int → Bool} {rs : List Ru} {lvl p : Int} {d i : Nat} (h : fIdx (flowB Q rs lvl d p) rs.length = some i) : rowD Q rs lvl (d + 1) p = i :: rowD Q rs lvl d (rl rs i).2.1 := by
  unfold rowD
  rw [rowP_hit h]
  rfl
theorem rowD_le (Q : Int → Int → Bool) (rs : List Ru) (lvl : Int) (d : Nat) (p : Int) : (rowD Q rs lvl d p).length ≤ d + 1 := by
  unfold rowD
  rw [List.length_append]
  have h1 := rowP_le Q rs lvl d p
  have h3 : ∀ (o : Option Nat), o.toList.length ≤ 1 := fun o => by cases o <;> simp
  have := h3 (fIdx (lowAt Q rs lvl (rowP Q rs lvl d p).2) rs.length)
  omega
theorem fIdx_find {f : Nat → Bool} {n i : Nat} (h : fIdx f n = some i) : i < n ∧ f i = true ∧ ∀ j, j < i → f j = false := by
  unfold fIdx at h
  rw [List.find?_range_eq_some] at h
  exact ⟨List.mem_range.1 h.2.1, h.1, fun j hj => by have := h.2.2 j hj; simpa using this⟩
theorem fIdx_exists {f : Nat → Bool} {n i : Nat} (hi : i < n) (h : f i = true) : ∃ j, fIdx f n = some j := by
  cases hf : fIdx f n with
  | some j => exact ⟨j, rfl⟩
  | none =>
    unfold fIdx at hf
    rw [List.find?_eq_none] at hf
    exact absurd h (hf i (List.mem_range.2 hi))
theorem flowB_iff {Q : Int → Int → Bool} {rs : List Ru} {lvl p : Int} {d i : Nat} : flowB Q rs lvl d p i = true ↔ (rl rs i).1 = 2 ∧ (rl rs i).2.2 = p ∧ startsB Q rs (rl rs i).2.1 d lvl = true := by
  unfold flowB
  rw [Bool.and_eq_true, Bool.and_eq_true, decide_eq_true_eq, decide_eq_true_eq, and_assoc]

set_option maxRecDepth 100000 in
set_option maxHeartbeats 4000000 in
theorem refRow_any (A : Option Addr) (cp n : Nat) (M : List (List Bool)) (ws : List Wd) (os : List (Wd × Wd)) (A2 : Option Addr) (c2 z m : Nat) (rs : List Ru) (lv : Nat) (W : World) (h : MatAt W W.heap.size A M) (hsq : ∀ r ∈ M, r.length = M.length) (hn : n = M.length) (hnw : n = ws.length) (hMT : mat M = leqL ws os) (hr : RlsAt W W.heap.size A2 rs) (hz : z = rs.length) (hz' : z ≤ 1000000) (hlv : lv < n) (hm : m ≤ 64) (hfit : ∀ r ∈ rs, rightR n m r = true) :
    ∀ (d p : Nat) (w : World), Ext W w → d ≤ 900000 → p < m → startsB (leqI ws os) rs p d lv = true → Calls Tryz.prog 66 #[.slice A n cp, .slice A2 z c2, .int .i64 (p : Nat), .int .i64 (lv : Nat), .int .i64 (d : Nat)] w (SeesPost (rowD (leqI ws os) rs lv d p) w) := by
  have hlow : ∀ i, i < rs.length → (rl rs i).1 = 1 → inZ (rl rs i).2.1 n = true ∧ inZ (rl rs i).2.2 m = true := fun i hi h1 => by
    have h := hfit _ (rl_mem hi)
    unfold rightR at h
    rw [if_pos h1, Bool.and_eq_true] at h
    exact h
  have hflow : ∀ i, i < rs.length → (rl rs i).1 = 2 → inZ (rl rs i).2.1 m = true ∧ inZ (rl rs i).2.2 m = true := fun i hi h1 => by
    have h := hfit _ (rl_mem hi)
    unfold rightR at h
    rw [if_neg (by omega), if_pos h1, Bool.and_eq_true] at h
    exact h
  have HFR := hide (fun (w1 : World) (hE : Ext W w1) (q : Int) => from_any A cp n M ws os A2 c2 z rs lv q w1 (h.below hE hE.size) hsq hn hnw hMT (hr.ext hE) hz hz' hlv (fun i hi h1 => (hlow i hi h1).1))
  have HCM := hide (fun (w1 : World) (hE : Ext W w1) (q d : Nat) (hq : q < m) (hd : d ≤ 1000000) => comes_any A cp n M ws os A2 c2 z m rs lv q d w1 (h.below hE hE.size) hsq hn hnw hMT (hr.ext hE) hz hz' hlv hq hm hd hfit)
  have HFLOW := hide hflow
  have HRS := hide hr
  have HZ := hide hz
  obtain ⟨Q, hQ⟩ : ∃ Q, Q = leqI ws os := ⟨_, rfl⟩
  rw [← hQ] at HFR HCM ⊢
  clear h hsq hn hnw hMT hr hfit hlow hflow hQ
  intro d
  induction d with
  | zero =>
    intro p w hW hd hp hs
    obtain ⟨i, hi, h1, h2, h3⟩ := starts_zero.1 hs
    obtain ⟨j, hj⟩ := fIdx_exists (f := lowAt Q rs lv p) hi (lowAt_iff.2 ⟨h1, h2, h3⟩)
    have HX := hide (rowD_zero hj)
    have hf := HFR.out w hW p
    rw [show fromI Q rs lv p = (j : Int) by unfold fromI; rw [hj]] at hf
    have HF := hide hf
    have j0 : (0 : Int) ≤ (j : Int) := by omega
    show Calls Tryz.prog 66 #[.slice A n cp, .slice A2 z c2, .int .i64 (p : Nat), .int .i64 (lv : Nat), .int .i64 0] w _
    clear hs hi h1 h2 h3 hj hf hz
    go_enter Tryz.func66, Tryz.ntmps66
    go_wp2_with fail
    refine HF.out.mono ?_
    rintro e w' ⟨rfl, rfl⟩
    go_wp2_with fail
    go_ret
    refine ⟨some ⟨w.heap.size, 0, none⟩, 1, ?_, ?_, (Ext.rfl' w).alloc (Nat.le_refl _) _⟩
    · rw [HX.out]; rfl
    · rw [HX.out]
      have := reads_new w 3 (.int .i64 (j : Nat))
      unfold NatAt
      rw [World.size_alloc]
      exact this
  | succ d ih =>
    intro p w hW hd hp hs
    have HIH := hide ih
    obtain ⟨i, hi, h1, h2, h3⟩ := starts_next.1 hs
    obtain ⟨j, hj⟩ := fIdx_exists (f := flowB Q rs lv d p) hi (flowB_iff.2 ⟨h1, h2, h3⟩)
    have HX := hide (rowD_hit hj)
    obtain ⟨hjz, hjt, hjf⟩ := fIdx_find hj
    obtain ⟨e, he⟩ : ∃ e, e = d + 1 := ⟨_, rfl⟩
    rw [← he]
    rw [← he] at HX
    have he0 : ((e : Int) == 0) = false := by rw [beq_eq_false_iff_ne]; omega
    have hwr : IntKind.i64.wrap ((e : Int) - 1) = (d : Int) := by rw [show (e : Int) - 1 = d by omega]; exact IntWalk.i64_in _ (by omega)
    have HJF := hide hjf
    have HJT := hide hjt
    have hjz' : j < z := by rw [HZ.out]; exact hjz
    have HJZ := hide hjz
    have HW := hide hW
    have hd' : d ≤ 900000 := by omega
    clear hs hi h1 h2 h3 hj hz ih hjf hjt he hjz hW
    go_enter Tryz.func66, Tryz.ntmps66
    go_wp2_with fail
    go_loopw [12] (fun x wr => ∃ k : Nat, k ≤ j ∧ x = .int .i64 (k : Int) ∧ Ext w wr) (fun x _ => j - (intOf x).toNat)
    case atStart => exact ⟨0, Nat.zero_le _, rfl, Ext.rfl' _⟩
    case round =>
      obtain ⟨k, hk, rfl, hE⟩ := hrel
      have HE := hide hE
      have HEW := hide (HW.out.trans' hE)
      have hkl : k < rs.length := by have := HJZ.out; omega
      obtain ⟨b, o, rfl, hbs, hcell⟩ := HRS.out.cell (by omega)
      obtain ⟨p0, p1, p2⟩ := hcell k hkl
      have q0 := (HEW.out.cell (p := ⟨b, o + k * 3, none⟩) hbs).trans p0
      have q1 := (HEW.out.cell (p := ⟨b, o + k * 3 + 1, none⟩) hbs).trans p1
      have q2 := (HEW.out.cell (p := ⟨b, o + k * 3 + 2, none⟩) hbs).trans p2
      have hfl := HFLOW.out k hkl
      have hfb : flowB Q rs lv d p k = ((decide ((rl rs k).1 = 2) && decide ((rl rs k).2.2 = p)) && startsB Q rs (rl rs k).2.1 d lv) := rfl
      have i0 : (0 : Int) ≤ (k : Int) := by omega
      have i1 : (k : Int) < (z : Int) := by omega
      by_cases hkj : k < j
      · have hff := HJF.out k hkj
        rw [hfb] at hff
        obtain ⟨r, hr⟩ : ∃ r, r = rl rs k := ⟨_, rfl⟩
        rw [← hr] at q0 q1 q2 hfl hff
        obtain ⟨r0, r1, r2⟩ := r
        simp only at q0 q1 q2 hfl hff
        by_cases h2 : r0 = 2
        · obtain ⟨ha, _⟩ := hfl h2
          rw [inZ_iff] at ha
          obtain ⟨a', rfl⟩ := Int.eq_ofNat_of_zero_le ha.1
          have ham : a' < m := by omega
          subst h2
          by_cases h3 : r2 = p
          · rw [decide_eq_true h3, Bool.and_true] at hff
            have hst : startsB Q rs (a' : Nat) d lv = false := by simpa using hff
            have hc := HCM.out wr HEW.out a' d ham (by omega)
            rw [hst] at hc
            have HC := hide hc
            subst h3
            clear hcell p0 p1 p2 hr hfl hff hfb ha hst hc hE hkl
            go_wp2_with fail
            refine HC.out.mono ?_
            rintro e w5 ⟨rfl, hE5⟩
            have HE5 := hide (HE.out.trans' hE5)
            clear hE5 q0 q1 q2
            go_wp2_with fail
            go_roundw
            case rel => exact ⟨k + 1, by omega, by go_num, HE5.out⟩
            case measure => simp [intOf]; omega
          · have hne : (r2 != (p : Int)) = true := by simpa using h3
            clear hcell p0 p1 p2 hr hfl hff hfb ha hE hkl h3
            go_wp2_with fail
            go_roundw
            case rel => exact ⟨k + 1, by omega, by go_num, HE.out⟩
            case measure => simp [intOf]; omega
        · have hne : (r0 != 2) = true := by simpa using h2
          clear hcell p0 p1 p2 hr hfl hff hfb hE hkl h2
          go_wp2_with fail
          go_roundw
          case rel => exact ⟨k + 1, by omega, by go_num, HE.out⟩
          case measure => simp [intOf]; omega
      · obtain rfl : k = j := by omega
        have hft := HJT.out
        rw [flowB_iff] at hft
        obtain ⟨t1, t2, t3⟩ := hft
        have hx := HX.out
        obtain ⟨r, hr⟩ : ∃ r, r = rl rs k := ⟨_, rfl⟩
        rw [← hr] at p0 p1 p2 q0 q1 q2 hfl t1 t2 t3 hx
        obtain ⟨r0, r1, r2⟩ := r
        simp only at p0 p1 p2 q0 q1 q2 hfl t1 t2 t3 hx
        obtain ⟨ha, _⟩ := hfl t1
        rw [inZ_iff] at ha
        obtain ⟨a', rfl⟩ := Int.eq_ofNat_of_zero_le ha.1
        have ham : a' < m := by omega
        subst t1
        subst t2
        have hc := HCM.out wr HEW.out a' d ham (by omega)
        rw [t3] at hc
        have HC := hide hc
        have HT3 := hide t3
        have HXX := hide hx
        have HP1 := hide p1
        clear hcell hr hfl hfb ha t3 hc hE hx p0 p1 p2
        go_wp2_with fail
        refine HC.out.mono ?_
        rintro e' w5 ⟨rfl, hE5⟩
        have HE5 := hide (HE.out.trans' hE5)
        have HEW5 := hide (HEW.out.trans' hE5)
        clear hE5 q0 q1 q2
        obtain ⟨w6, hw6⟩ : ∃ w6, w6 = w5.alloc (.cells #[.int .i64 (k : Nat)] 3) := ⟨_, rfl⟩
        obtain ⟨g6, hg6⟩ : ∃ g, g = w5.heap.size := ⟨_, rfl⟩
        have hO6 := own_one w5 k
        rw [← hw6, ← hg6] at hO6
        have hE56 : Ext w5 w6 := by rw [hw6]; exact (Ext.rfl' w5).alloc (Nat.le_refl _) _
        have q1 := ((HEW5.out.trans' hE56).cell (p := ⟨b, o + k * 3 + 1, none⟩) hbs).trans HP1.out
        rw [hw6] at q1
        have HE6 := hide (HE5.out.trans' hE56)
        have HEW6 := hide (HEW5.out.trans' hE56)
        have HO6 := hide hO6
        have hgw : w.heap.size ≤ g6 := by rw [hg6]; exact HE5.out.size
        have HR := hide (HIH.out a' w6 HEW6.out hd' ham HT3.out)
        have hle := rowD_le Q rs lv d (a' : Nat)
        obtain ⟨L, hL⟩ : ∃ L, L = rowD Q rs lv d (a' : Nat) := ⟨_, rfl⟩
        rw [← hL] at HR hle HXX
        obtain ⟨y, hy⟩ : ∃ y, y = L.length := ⟨_, rfl⟩
        have HY := hide hy
        rw [← hy] at hle
        have HW6 := hide hw6
        have HG6 := hide hg6
        clear hO6 hE56 hL hw6 hg6
        go_wp2_with fail
        rw [← HW6.out, ← HG6.out]
        refine HR.out.mono ?_
        rintro e' w7 ⟨A7, c7, rfl, hN7, hE7⟩
        rw [← HY.out]
        unfold NatAt at hN7
        rw [← HY.out] at hN7
        have HN7 := hide hN7
        have HE7 := hide (HE6.out.trans' hE7)
        have HO7 := hide (own_ext HO6.out hE7)
        have hsz : g6 ≤ w7.heap.size := by
          have h1 := hE7.size
          have h2 := HG6.out
          have h3 : w5.heap.size ≤ w6.heap.size := by rw [HW6.out, World.size_alloc]; omega
          omega
        clear hN7 hE7 q1 hy
        go_wp2_with (at_builtin; refine wpList_append_Nats _ rfl _ _ rfl g6 _ 1 [k] rfl w7.heap.size A7 y c7 L rfl HO7.out HN7.out (by omega) hsz ?_)
        intro A8 c8 w8 hown8 hgrow8 _
        have HE8 := hide (grown_ext' (w := w) (wr := w7) (base := g6) HE7.out (Ext.rfl' w7) hgrow8 HO7.out hgw)
        have HO8 := hide hown8
        clear hown8 hgrow8
        go_wp2_with fail
        go_ret
        refine ⟨A8, c8, ?_, ?_, HE8.out⟩
        · rw [HXX.out, List.length_cons, ← HY.out, Nat.add_comm]; rfl
        · unfold NatAt
          rw [HXX.out, List.length_cons, ← HY.out, Nat.add_comm y 1]
          exact Reads.of_own HO8.out
end Go.Proofs.YtpjlhpaenmfieaaGreat
/- solve: the document's Why, walked. -/
namespace Go.Proofs.YtpjlhpaenmfieaaGreat
open Go.RowKit

theorem trace_rowD {Q : Int → Int → Bool} {rs : List Ru} {h e : Nat} (hf : Fewest Q rs (rl rs h).2.2 (rl rs h).2.1 e) : traceL Q rs h = (h :: rowD Q rs (rl rs h).2.2 e (rl rs h).2.1).reverse := by
  have hfl : flowsN Q rs h = e := firstD_fewest hf
  have hrow : rowH Q rs h = rowP Q rs (rl rs h).2.2 e (rl rs h).2.1 := by unfold rowH; rw [hfl]
  unfold traceL rowD
  rw [hrow]
  rfl
theorem take_rev {l : List Nat} {q v : Nat} (h : l[l.length - 1 - q]? = some v) (hq : q < l.length) : l.reverse.take (q + 1) = l.reverse.take q ++ [v] := by
  have hq' : q < l.reverse.length := by simpa using hq
  rw [List.take_succ_eq_append_getElem hq']
  congr
  rw [List.getElem_reverse]
  have := (List.getElem?_eq_some_iff.1 h).2
  exact this

set_option maxRecDepth 100000 in
set_option maxHeartbeats 4000000 in
theorem refWhy_any (A : Option Addr) (cp n : Nat) (M : List (List Bool)) (ws : List Wd) (os : List (Wd × Wd)) (A2 : Option Addr) (c2 z m : Nat) (rs : List Ru) (h0 d0 : Nat) (w : World) (h : MatAt w w.heap.size A M) (hsq : ∀ r ∈ M, r.length = M.length) (hn : n = M.length) (hnw : n = ws.length) (hMT : mat M = leqL ws os) (hr : RlsAt w w.heap.size A2 rs) (hz : z = rs.length) (hz' : z ≤ 60) (hm : m ≤ 64) (hfit : ∀ r ∈ rs, rightR n m r = true) (hh : h0 < rs.length) (h3 : (rl rs h0).1 = 3) (hs : startsB (leqI ws os) rs (rl rs h0).2.1 d0 (rl rs h0).2.2 = true) :
    Calls Tryz.prog 29 #[.slice A n cp, .slice A2 z c2, .int .i64 (h0 : Nat)] w (SeesPost (traceL (leqI ws os) rs h0) w) := by
  obtain ⟨e, _, hfe⟩ := fewest_of hs
  have hez := hfe.lt
  have hx := trace_rowD hfe
  have hin := hfit _ (rl_mem hh)
  unfold rightR at hin
  rw [if_neg (by omega), if_neg (by omega), if_pos h3, Bool.and_eq_true, inZ_iff, inZ_iff] at hin
  obtain ⟨a, ha⟩ := Int.eq_ofNat_of_zero_le hin.1.1
  obtain ⟨lv, hlv⟩ := Int.eq_ofNat_of_zero_le hin.2.1
  have ham : a < m := by omega
  have hln : lv < n := by omega
  rw [ha, hlv] at hfe hx
  have HCM := hide (fun (w1 : World) (hE : Ext w w1) (d : Nat) (hd : d ≤ 1000000) => comes_any A cp n M ws os A2 c2 z m rs lv a d w1 (h.below hE hE.size) hsq hn hnw hMT (hr.ext hE) hz (by omega) hln ham hm hd hfit)
  have HRW := hide (fun (w1 : World) (hE : Ext w w1) => refRow_any A cp n M ws os A2 c2 z m rs lv w h hsq hn hnw hMT hr hz (by omega) hln hm hfit e a w1 hE (by omega) ham hfe.1)
  have hle := rowD_le (leqI ws os) rs lv e (a : Nat)
  obtain ⟨b, o, rfl, hbs, hcell⟩ := hr.cell (by omega)
  obtain ⟨p0, p1, p2⟩ := hcell h0 hh
  rw [h3] at p0
  rw [ha] at p1
  rw [hlv] at p2
  obtain ⟨Q, hQ⟩ : ∃ Q, Q = leqI ws os := ⟨_, rfl⟩
  rw [← hQ] at HCM HRW hle hfe hx ⊢
  obtain ⟨L, hL⟩ : ∃ L, L = rowD Q rs lv e (a : Nat) := ⟨_, rfl⟩
  rw [← hL] at HRW hle hx
  obtain ⟨y, hy⟩ : ∃ y, y = L.length := ⟨_, rfl⟩
  have HY := hide hy
  rw [← hy] at hle
  have HX := hide hx
  have HFE := hide hfe
  have he60 : e < 60 := by omega
  have i0 : (0 : Int) ≤ (h0 : Int) := by omega
  have i1 : (h0 : Int) < (z : Int) := by omega
  obtain ⟨w1, hw1⟩ : ∃ w1, w1 = w.alloc (.cells #[.int .i64 3, .int .i64 (a : Nat), .int .i64 (lv : Nat)] 110) := ⟨_, rfl⟩
  obtain ⟨g1, hg1⟩ : ∃ g, g = w.heap.size := ⟨_, rfl⟩
  have hV : Blk w1 g1 110 #[.int .i64 3, .int .i64 (a : Nat), .int .i64 (lv : Nat)] := by rw [hw1, hg1]; exact Blk.new _ _ _
  have HV := hide hV
  have HE1 := hide (show Ext w w1 by rw [hw1]; exact (Ext.rfl' w).alloc (Nat.le_refl _) _)
  have HW1 := hide hw1
  have HG1 := hide hg1
  clear hs hfe hx hin ha hlv h hsq hn hnw hMT hr hz hfit hh h3 hcell hQ hL hy hw1 hg1 hV hez
  go_enter Tryz.func29, Tryz.ntmps29
  go_upto_region 2 with fail
  rw [← HW1.out, ← HG1.out]
  clear p0 p1 p2
  go_wp2_with fail
  go_loopw [8] (fun x wr => ∃ k : Nat, k ≤ e ∧ x = .int .i64 (k : Int) ∧ Ext w1 wr) (fun x _ => e - (intOf x).toNat)
  case atStart => exact ⟨0, Nat.zero_le _, rfl, Ext.rfl' _⟩
  case round =>
    obtain ⟨k, hk, rfl, hE⟩ := hrel
    have HE := hide hE
    have hEw := HE1.out.trans' hE
    have hVr := HV.out.ext hE
    have v0 := hVr.cell 0
    have v1 := hVr.cell 1
    have v2 := hVr.cell 2
    simp only [List.getElem?_toArray, List.getElem?_cons_zero, List.getElem?_cons_succ] at v0 v1 v2
    have hc := HCM.out wr hEw k (by omega)
    have k64 : (k : Int) < 64 := by omega
    by_cases hke : k < e
    · rw [HFE.out.2 k hke] at hc
      have HC := hide hc
      clear hE hEw hVr hc
      go_wp2_with fail
      refine HC.out.mono ?_
      rintro e' w5 ⟨rfl, hE5⟩
      have HE5 := hide (HE.out.trans' hE5)
      clear hE5 v0 v1 v2
      go_wp2_with fail
      go_roundw
      case rel => exact ⟨k + 1, by omega, by go_num, HE5.out⟩
      case measure => simp [intOf]; omega
    · obtain rfl : k = e := by omega
      rw [HFE.out.1] at hc
      have HC := hide hc
      have HEW := hide hEw
      clear hE hEw hVr hc
      go_wp2_with fail
      refine HC.out.mono ?_
      rintro e' w5 ⟨rfl, hE5⟩
      have HE5 := hide (HE.out.trans' hE5)
      have HEW5 := hide (HEW.out.trans' hE5)
      clear hE5 v0 v1 v2
      obtain ⟨w6, hw6⟩ : ∃ w6, w6 = w5.alloc (.cells #[.int .i64 (h0 : Nat)] 3) := ⟨_, rfl⟩
      obtain ⟨g6, hg6⟩ : ∃ g, g = w5.heap.size := ⟨_, rfl⟩
      have hO6 := own_one w5 h0
      rw [← hw6, ← hg6] at hO6
      have hE56 : Ext w5 w6 := by rw [hw6]; exact (Ext.rfl' w5).alloc (Nat.le_refl _) _
      have hV6 := HV.out.ext (HE5.out.trans' hE56)
      have v0 := hV6.cell 0
      have v1 := hV6.cell 1
      have v2 := hV6.cell 2
      simp only [List.getElem?_toArray, List.getElem?_cons_zero, List.getElem?_cons_succ] at v0 v1 v2
      rw [hw6] at v0 v1 v2
      have HEW6 := hide (HEW5.out.trans' hE56)
      have HO6 := hide hO6
      have hgw : w.heap.size ≤ g6 := by rw [hg6]; exact HEW5.out.size
      have HR := hide (HRW.out w6 HEW6.out)
      have HW6 := hide hw6
      have HG6 := hide hg6
      clear hO6 hE56 hw6 hg6 hV6
      go_wp2_with fail
      rw [← HW6.out, ← HG6.out]
      refine HR.out.mono ?_
      rintro e' w7 ⟨A7, c7, rfl, hN7, hE7⟩
      rw [← HY.out]
      unfold NatAt at hN7
      rw [← HY.out] at hN7
      have HN7 := hide hN7
      have HE7 := hide (HEW6.out.trans' hE7)
      have HO7 := hide (own_ext HO6.out hE7)
      have hsz : g6 ≤ w7.heap.size := by
        have h1 := hE7.size
        have h2 := HG6.out
        have h3 : w5.heap.size ≤ w6.heap.size := by rw [HW6.out, World.size_alloc]; omega
        omega
      clear hN7 hE7 v0 v1 v2
      go_wp2_with (at_builtin; refine wpList_append_Nats _ rfl _ _ rfl g6 _ 1 [h0] rfl w7.heap.size A7 y c7 L rfl HO7.out HN7.out (by omega) hsz ?_)
      intro A8 c8 w8 hown8 hgrow8 _
      have HE8 := hide (grown_ext' (w := w) (wr := w7) (base := g6) HE7.out (Ext.rfl' w7) hgrow8 HO7.out hgw)
      have hN8 : NatAt w8 w8.heap.size A8 (h0 :: L) := by
        unfold NatAt
        rw [List.length_cons, ← HY.out, Nat.add_comm y 1]
        exact Reads.of_own hown8
      obtain ⟨l, hl⟩ : ∃ l, l = h0 :: L := ⟨_, rfl⟩
      have hll : l.length = 1 + y := by rw [hl, List.length_cons, HY.out, Nat.add_comm]
      rw [← hl] at hN8 HX
      obtain ⟨N, hN⟩ : ∃ N, N = 1 + y := ⟨_, rfl⟩
      rw [← hN] at hll ⊢
      have hN1 : 1 ≤ N := by omega
      have hN2 : N ≤ 100 := by omega
      have HN8 := hide hN8
      have HLL := hide hll
      have hwr : IntKind.i64.wrap ((N : Int) - 1) = (N : Int) - 1 := IntWalk.i64_in _ (by omega)
      clear hown8 hgrow8 hN8 hl hll hN
      go_wp2_with fail
      go_loopw [11, 10] (fun x ov wr => ∃ (r q : Nat) (v : Int) (Ao : Option Addr) (co : Nat), x = .int .i64 v ∧ ov = .slice Ao q co ∧ q + r = N ∧ wr.ownsRow w8.heap.size 3 1 (.slice Ao q co) q (natCells (l.reverse.take q)) ∧ Ext w8 wr ∧ Hid (v = (r : Int) - 1)) (fun x _ _ => (intOf x + 1).toNat)
      case atStart => exact ⟨N, 0, (N : Int) - 1, none, 0, rfl, rfl, by omega, World.ownsRow_nil _ _ _ _, Ext.rfl' _, rfl⟩
      case round =>
        obtain ⟨r, q, v, Ao, co, rfl, rfl, hqr, hO, hE, HVV⟩ := hrel
        have HO := hide hO
        have HEr := hide hE
        cases r with
        | zero =>
          have hv : ¬ (v ≥ 0) := by rw [HVV.out]; decide
          obtain rfl : q = N := by omega
          have hO' := HO.out
          rw [List.take_of_length_le (by rw [List.length_reverse, HLL.out]; exact Nat.le_refl _)] at hO'
          have HO' := hide hO'
          clear hO hE hO'
          go_wp2_with fail
          go_ret
          refine ⟨Ao, co, ?_, ?_, HE8.out.trans' HEr.out⟩
          · rw [HX.out, List.length_reverse, HLL.out]; rfl
          · unfold NatAt
            rw [HX.out, List.length_reverse, HLL.out]
            exact Reads.of_own HO'.out
        | succ s =>
          obtain rfl : v = (s : Int) := by rw [HVV.out]; omega
          have hsl : s < l.length := by rw [HLL.out]; omega
          obtain ⟨bl, ol, rfl, hbl, hcl⟩ := HN8.out.cell (by omega)
          have lk := (hE.cell (p := ⟨bl, ol + s, none⟩) hbl).trans (hcl s hsl)
          have hst := take_rev (l := l) (q := q) (v := l[s]) (by rw [show l.length - 1 - q = s by have := HLL.out; omega]; exact List.getElem?_eq_getElem hsl) (by have := HLL.out; omega)
          obtain ⟨u, hu⟩ : ∃ u, u = l[s] := ⟨_, rfl⟩
          rw [← hu] at lk hst
          have HST := hide hst
          have j0 : (0 : Int) ≤ (s : Int) := by omega
          have j1 : (s : Int) < (N : Int) := by omega
          have jw : IntKind.i64.wrap ((s : Int) - 1) = (s : Int) - 1 := IntWalk.i64_in _ (by omega)
          have hsz := hE.size
          clear hcl hu hst hO hE
          go_wp2_with (at_builtin; refine wpList_append_Nat _ rfl _ _ rfl w8.heap.size _ q (l.reverse.take q) rfl wr.heap.size u _ rfl (HO.out.alloc _) (reads_new _ _ _) (by omega) (by simp only [World.size_alloc]; omega) ?_)
          intro A3 c3 w9 hown3 hgrow3 _
          have HE9 := hide (grown_ext' (w := w8) (wr := wr) (base := w8.heap.size) HEr.out ((Ext.rfl' wr).alloc (Nat.le_refl _) _) hgrow3 HO.out (Nat.le_refl _))
          rw [← HST.out] at hown3
          have HO9 := hide hown3
          clear hown3 hgrow3
          go_wp2_with fail
          go_roundw
          case rel => exact ⟨s, q + 1, (s : Int) - 1, A3, c3, (by first | rfl | go_num), rfl, by omega, HO9.out, HE9.out, rfl⟩
          case measure => simp [intOf]
end Go.Proofs.YtpjlhpaenmfieaaGreat
