/- solve: rules in memory; in, right, Holds, walked. -/
import Derived.Test.YtpjlhpaenmfieaaGreatLabAll
import Derived.Test.YtpjlhpaenmfieaaGreatLatPl
import Derived.StillTailTactics
namespace Go.Proofs.YtpjlhpaenmfieaaGreat
open Go.RowKit

/-- A rule: its kind, and what it is about. -/
abbrev Ru := Int × Int × Int
def ru0 : Ru := (0, 0, 0)
def rl (rs : List Ru) (k : Nat) : Ru := rs.getD k ru0
def rlCells (rs : List Ru) : List Value := rs.flatMap fun r => [.int .i64 r.1, .int .i64 r.2.1, .int .i64 r.2.2]
theorem rlCells_length (rs : List Ru) : (rlCells rs).length = rs.length * 3 := by
  induction rs with
  | nil => rfl
  | cons p ps ih => simp only [rlCells, List.flatMap_cons, List.length_append] at ih ⊢; rw [ih]; simp; omega
theorem rlCells_get (rs : List Ru) (k : Nat) (hk : k < rs.length) : (rlCells rs)[k * 3]? = some (.int .i64 (rl rs k).1) ∧ (rlCells rs)[k * 3 + 1]? = some (.int .i64 (rl rs k).2.1) ∧ (rlCells rs)[k * 3 + 2]? = some (.int .i64 (rl rs k).2.2) := by
  induction rs generalizing k with
  | nil => simp at hk
  | cons p ps ih =>
    cases k with
    | zero => exact ⟨rfl, rfl, rfl⟩
    | succ k =>
      have := ih k (by simpa using hk)
      simp only [rlCells, List.flatMap_cons] at this ⊢
      rw [show (k + 1) * 3 = k * 3 + 1 + 1 + 1 by omega]
      simpa [rl] using this
def RlsAt (w : World) (B : Nat) (A : Option Addr) (rs : List Ru) : Prop := Reads w B 3 A rs.length (rlCells rs)
theorem RlsAt.cell {w : World} {B : Nat} {A : Option Addr} {rs : List Ru} (h : RlsAt w B A rs) (hn : 0 < rs.length) :
    ∃ b o, A = some ⟨b, o, none⟩ ∧ b < B ∧ ∀ k, k < rs.length → w.cell? ⟨b, o + k * 3, none⟩ = some (.int .i64 (rl rs k).1) ∧ w.cell? ⟨b, o + k * 3 + 1, none⟩ = some (.int .i64 (rl rs k).2.1) ∧ w.cell? ⟨b, o + k * 3 + 2, none⟩ = some (.int .i64 (rl rs k).2.2) := by
  obtain ⟨b, o, e, hb, hc⟩ := h.form hn (by omega)
  refine ⟨b, o, e, hb, fun k hk => ?_⟩
  obtain ⟨h0, h1, h2⟩ := rlCells_get rs k hk
  exact ⟨hc _ _ h0, hc _ _ h1, hc _ _ h2⟩
theorem RlsAt.ext {w w' : World} {A : Option Addr} {rs : List Ru} (h : RlsAt w w.heap.size A rs) (hE : Ext w w') : RlsAt w' w'.heap.size A rs :=
  (Reads.keep h fun _p hp => hE.cell hp).more hE.size
def ruV (r : Ru) : Value := .agg #[.int .i64 r.1, .int .i64 r.2.1, .int .i64 r.2.2]

def inZ (i n : Int) : Bool := decide (0 ≤ i) && decide (i < n)
theorem inZ_iff {i n : Int} : inZ i n = true ↔ 0 ≤ i ∧ i < n := by unfold inZ; simp
theorem solIn_any (i n : Int) (w : World) : Calls Tryz.prog 111 #[.int .i64 i, .int .i64 n] w (fun e w' => e = .returned (.bool (inZ i n)) ∧ w = w') := by
  by_cases h0 : 0 ≤ i
  · have e : inZ i n = decide (i < n) := by unfold inZ; rw [decide_eq_true h0, Bool.true_and]
    rw [e]
    clear e
    go_enter Tryz.func111, Tryz.ntmps111
    go_wp2_with fail
    go_ret
    exact ⟨rfl, rfl⟩
  · have e : inZ i n = false := by unfold inZ; rw [decide_eq_false h0, Bool.false_and]
    rw [e]
    clear e
    go_enter Tryz.func111, Tryz.ntmps111
    go_wp2_with fail
    go_ret
    exact ⟨rfl, rfl⟩

/-- May a rule be, of so many levels, and places? -/
def rightR (nl np : Int) (r : Ru) : Bool := if r.1 = 1 then inZ r.2.1 nl && inZ r.2.2 np else if r.1 = 2 then inZ r.2.1 np && inZ r.2.2 np else if r.1 = 3 then inZ r.2.1 np && inZ r.2.2 nl else false
set_option maxRecDepth 100000 in
set_option maxHeartbeats 1000000 in
theorem solRight_any (nl np k a b : Int) (w : World) : Calls Tryz.prog 94 #[.int .i64 nl, .int .i64 np, .agg #[.int .i64 k, .int .i64 a, .int .i64 b]] w (fun e w' => e = .returned (.bool (rightR nl np (k, a, b))) ∧ Ext w w') := by
  obtain ⟨w1, hw1⟩ : ∃ w1, w1 = w.alloc (.cells #[.int .i64 k, .int .i64 a, .int .i64 b] 106) := ⟨_, rfl⟩
  obtain ⟨g, hg⟩ : ∃ g, g = w.heap.size := ⟨_, rfl⟩
  have hB : Blk w1 g 106 #[.int .i64 k, .int .i64 a, .int .i64 b] := by rw [hw1, hg]; exact Blk.new _ _ _
  have HE := hide (show Ext w w1 by rw [hw1]; exact (Ext.rfl' w).alloc (Nat.le_refl _) _)
  have b0 := hB.cell 0
  have b1 := hB.cell 1
  have b2 := hB.cell 2
  simp only [List.getElem?_toArray, List.getElem?_cons_zero, List.getElem?_cons_succ] at b0 b1 b2
  have HW := hide hw1
  have HG := hide hg
  clear hw1 hg hB
  have key : ∀ (n1 n2 : Int) (k' : Int), k = k' → (k' = 1 ∧ n1 = nl ∧ n2 = np ∨ k' = 2 ∧ n1 = np ∧ n2 = np ∨ k' = 3 ∧ n1 = np ∧ n2 = nl) → Calls Tryz.prog 94 #[.int .i64 nl, .int .i64 np, .agg #[.int .i64 k, .int .i64 a, .int .i64 b]] w (fun e w' => e = .returned (.bool (inZ a n1 && inZ b n2)) ∧ Ext w w') := by
    intro n1 n2 k' hk hcase
    subst hk
    have HA := hide (solIn_any a n1 w1)
    have HB := hide (solIn_any b n2 w1)
    obtain ⟨x, hx⟩ : ∃ x, x = inZ a n1 := ⟨_, rfl⟩
    obtain ⟨y, hy⟩ : ∃ y, y = inZ b n2 := ⟨_, rfl⟩
    rw [← hx] at HA ⊢
    rw [← hy] at HB ⊢
    clear hx hy
    rcases hcase with ⟨rfl, rfl, rfl⟩ | ⟨rfl, rfl, rfl⟩ | ⟨rfl, rfl, rfl⟩
    all_goals
      cases x with
      | false =>
        go_enter Tryz.func94, Tryz.ntmps94
        go_upto_region 1 with fail
        rw [← HW.out, ← HG.out]
        go_wp2_with fail
        refine HA.out.mono ?_
        rintro e w' ⟨rfl, rfl⟩
        go_wp2_with fail
        go_ret
        exact ⟨rfl, HE.out⟩
      | true =>
        go_enter Tryz.func94, Tryz.ntmps94
        go_upto_region 1 with fail
        rw [← HW.out, ← HG.out]
        go_wp2_with fail
        refine HA.out.mono ?_
        rintro e w' ⟨rfl, rfl⟩
        go_wp2_with fail
        refine HB.out.mono ?_
        rintro e w' ⟨rfl, rfl⟩
        go_wp2_with fail
        go_ret
        exact ⟨rfl, HE.out⟩
  unfold rightR
  by_cases c1 : k = 1
  · rw [if_pos c1]
    exact key nl np 1 c1 (.inl ⟨rfl, rfl, rfl⟩)
  · rw [if_neg c1]
    by_cases c2 : k = 2
    · rw [if_pos c2]
      exact key np np 2 c2 (.inr (.inl ⟨rfl, rfl, rfl⟩))
    · rw [if_neg c2]
      by_cases c3 : k = 3
      · rw [if_pos c3]
        exact key np nl 3 c3 (.inr (.inr ⟨rfl, rfl, rfl⟩))
      · rw [if_neg c3]
        clear key
        have e1 : (k == 1) = false := by simpa using c1
        have e2 : (k == 2) = false := by simpa using c2
        have e3 : (k == 3) = false := by simpa using c3
        clear c1 c2 c3
        go_enter Tryz.func94, Tryz.ntmps94
        go_upto_region 1 with fail
        rw [← HW.out, ← HG.out]
        go_wp2_with fail
        go_ret
        exact ⟨rfl, HE.out⟩
end Go.Proofs.YtpjlhpaenmfieaaGreat
/- solve: Holds, walked. -/
namespace Go.Proofs.YtpjlhpaenmfieaaGreat
open Go.RowKit

/-- What a rule asks to be at most what. -/
def loR (x : List Int) (r : Ru) : Int := if r.1 = 1 then r.2.1 else x.getD r.2.1.toNat 0
def hiR (x : List Int) (r : Ru) : Int := if r.1 = 3 then r.2.2 else x.getD r.2.2.toNat 0
def holdsR (ws : List Wd) (os : List (Wd × Wd)) (x : List Int) (r : Ru) : Bool := rightR ws.length x.length r && leqI ws os (loR x r) (hiR x r)
theorem int_at {w : World} {A : Option Addr} {x : List Int} {a : Int} (hx : IntAt w w.heap.size A x) (ha : inZ a x.length = true) : ∃ b o k : Nat, A = some ⟨b, o, none⟩ ∧ b < w.heap.size ∧ a = k ∧ k < x.length ∧ w.cell? ⟨b, o + k, none⟩ = some (.int .i64 (x.getD a.toNat 0)) := by
  obtain ⟨h0, h1⟩ := inZ_iff.1 ha
  obtain ⟨k, rfl⟩ := Int.eq_ofNat_of_zero_le h0
  have hk : k < x.length := by omega
  obtain ⟨b, o, rfl, hb, hc⟩ := hx.cell (by omega)
  refine ⟨b, o, k, rfl, hb, rfl, hk, ?_⟩
  rw [hc k hk, Int.toNat_natCast, List.getD_eq_getElem?_getD, List.getElem?_eq_getElem hk]
  rfl

set_option maxRecDepth 100000 in
set_option maxHeartbeats 2000000 in
theorem solHolds_any (p : Option Addr) (Q : Int → Int → Bool) (nl : Int) (A : Option Addr) (c m : Nat) (x : List Int) (k a b : Int) (w : World) (hx : IntAt w w.heap.size A x) (hm : m = x.length) (hm' : m ≤ 9223372036854775807)
    (hln : ∀ w1, Ext w w1 → Calls Tryz.prog 52 #[.pointer p] w1 (fun e w' => e = .returned (.int .i64 nl) ∧ w1 = w'))
    (hlq : ∀ w1, Ext w w1 → ∀ u v : Int, Calls Tryz.prog 51 #[.pointer p, .int .i64 u, .int .i64 v] w1 (fun e w' => e = .returned (.bool (Q u v)) ∧ w1 = w')) :
    Calls Tryz.prog 61 #[.pointer p, .slice A m c, .agg #[.int .i64 k, .int .i64 a, .int .i64 b]] w (fun e w' => e = .returned (.bool (rightR nl x.length (k, a, b) && Q (loR x (k, a, b)) (hiR x (k, a, b)))) ∧ Ext w w') := by
  obtain ⟨w1, hw1⟩ : ∃ w1, w1 = w.alloc (.cells #[.int .i64 k, .int .i64 a, .int .i64 b] 106) := ⟨_, rfl⟩
  obtain ⟨g, hg⟩ : ∃ g, g = w.heap.size := ⟨_, rfl⟩
  have hB : Blk w1 g 106 #[.int .i64 k, .int .i64 a, .int .i64 b] := by rw [hw1, hg]; exact Blk.new _ _ _
  have hE1 : Ext w w1 := by rw [hw1]; exact (Ext.rfl' w).alloc (Nat.le_refl _) _
  have HB := hide hB
  have HE1 := hide hE1
  have HW := hide hw1
  have HG := hide hg
  have HX := hide hx
  have HLN := hide hln
  have HLQ := hide hlq
  have HM := hide hm
  obtain ⟨R, hR⟩ : ∃ R, R = rightR nl x.length (k, a, b) := ⟨_, rfl⟩
  rw [← hR]
  have HR := hide hR
  clear hw1 hg hE1 hx hln hlq
  go_enter Tryz.func61, Tryz.ntmps61
  go_upto_region 1 with fail
  rw [← HW.out, ← HG.out]
  go_cut [13] (fun v wx => v = .bool (!R) ∧ Ext w1 wx)
  case first =>
    refine wp_region_ext (by kernel_rfl) (by kernel_rfl) w1 (Ext.rfl' _) ?_
    intro I _ f hf hc
    have q0 : ∀ n, (f n).cell? ⟨g, 0, none⟩ = some (.int .i64 k) := fun n => (hB.ext (hf n)).cell 0
    have q1 : ∀ n, (f n).cell? ⟨g, 1, none⟩ = some (.int .i64 a) := fun n => (hB.ext (hf n)).cell 1
    have q2 : ∀ n, (f n).cell? ⟨g, 2, none⟩ = some (.int .i64 b) := fun n => (hB.ext (hf n)).cell 2
    have hr := fun n => fam_ext hf hc (solRight_any nl m k a b (f n))
    rw [show rightR nl (m : Int) (k, a, b) = R by rw [hR, hm]] at hr
    have H1 := hide (fun n => fam_same (HLN.out (f n) (HE1.out.trans' (hf n))))
    have H2 := hide hr
    have HF := hide hf
    clear hB hf hc hr hR hm
    repeat (go_big_quiet_step ((first
      | (go_at_call 52; with_reducible exact H1.out _)
      | (go_at_call 94; with_reducible exact H2.out _))))
    refine wpQuiet_nil ?_
    rintro _ ⟨nq, rfl⟩
    go_wp2_with fail
    go_meet
    exact ⟨rfl, HF.out nq⟩
  case rest =>
    obtain ⟨rfl, hEc⟩ := hcut
    have HEc := hide (HE1.out.trans' hEc)
    have hBc := HB.out.ext hEc
    have b0 := hBc.cell 0
    have b1 := hBc.cell 1
    have b2 := hBc.cell 2
    simp only [List.getElem?_toArray, List.getElem?_cons_zero, List.getElem?_cons_succ] at b0 b1 b2
    have HXc := hide (HX.out.ext HEc.out)
    clear hB hBc hEc hR hm
    cases R with
    | false =>
      go_wp2_with fail
      go_ret
      exact ⟨rfl, HEc.out⟩
    | true =>
      have hr := HR.out.symm
      unfold rightR at hr
      have HLQn := hide (fun (j : Nat) (u v : Int) => quiet_left (n := j) (HLQ.out (wc.drewN j) (below_drewN HEc.out j) u v))
      by_cases c1 : k = 1
      · rw [if_pos c1, Bool.and_eq_true] at hr
        obtain ⟨b', o', kb, rfl, _, hb, hkb, hcell⟩ := int_at HXc.out hr.2
        have hlo : loR x (k, a, b) = a := by unfold loR; rw [if_pos c1]
        have hhi : hiR x (k, a, b) = x.getD b.toNat 0 := by unfold hiR; rw [if_neg (by show ¬ k = 3; omega)]
        obtain ⟨v, hv⟩ : ∃ v, v = x.getD b.toNat 0 := ⟨_, rfl⟩
        rw [← hv] at hcell
        have HQ := hide (fun j => HLQn.out j a v)
        obtain ⟨qq, hqq⟩ : ∃ q, q = Q a v := ⟨_, rfl⟩
        rw [← hqq] at HQ
        have HEQ := hide (show Q (loR x (k, a, b)) (hiR x (k, a, b)) = qq by rw [hlo, hhi, hqq, hv])
        subst c1
        subst hb
        have i0 : (0 : Int) ≤ (kb : Int) := by omega
        have i1 : (kb : Int) < (m : Int) := by have := HM.out; omega
        clear hr hlo hhi hv hqq hkb
        go_wp2_with fail
        go_quiet ((go_at_call 51; with_reducible exact HQ.out _))
        go_wp2_with fail
        go_ret
        exact ⟨ret_bool (by rw [Bool.true_and, HEQ.out]), below_drewN HEc.out _⟩
      · rw [if_neg c1] at hr
        by_cases c2 : k = 2
        · rw [if_pos c2, Bool.and_eq_true] at hr
          obtain ⟨b', o', ka, hA, _, ha, hka, hcella⟩ := int_at HXc.out hr.1
          obtain ⟨b'', o'', kb, hA2, _, hb, hkb, hcellb⟩ := int_at HXc.out hr.2
          rw [hA] at hA2
          obtain ⟨rfl, rfl⟩ : b' = b'' ∧ o' = o'' := by injection hA2 with h; injection h with h1 h2; exact ⟨h1, h2⟩
          subst hA
          have hlo : loR x (k, a, b) = x.getD a.toNat 0 := by unfold loR; rw [if_neg (by show ¬ k = 1; omega)]
          have hhi : hiR x (k, a, b) = x.getD b.toNat 0 := by unfold hiR; rw [if_neg (by show ¬ k = 3; omega)]
          obtain ⟨u, hu⟩ : ∃ v, v = x.getD a.toNat 0 := ⟨_, rfl⟩
          obtain ⟨v, hv⟩ : ∃ v, v = x.getD b.toNat 0 := ⟨_, rfl⟩
          rw [← hu] at hcella
          rw [← hv] at hcellb
          have HQ := hide (fun j => HLQn.out j u v)
          obtain ⟨qq, hqq⟩ : ∃ q, q = Q u v := ⟨_, rfl⟩
          rw [← hqq] at HQ
          have HEQ := hide (show Q (loR x (k, a, b)) (hiR x (k, a, b)) = qq by rw [hlo, hhi, hqq, hu, hv])
          subst c2
          subst ha
          subst hb
          have i0 : (0 : Int) ≤ (kb : Int) := by omega
          have i1 : (kb : Int) < (m : Int) := by have := HM.out; omega
          have i2 : (0 : Int) ≤ (ka : Int) := by omega
          have i3 : (ka : Int) < (m : Int) := by have := HM.out; omega
          clear hr hlo hhi hu hv hqq hkb hka hA2 c1
          go_wp2_with fail
          go_quiet ((go_at_call 51; with_reducible exact HQ.out _))
          go_wp2_with fail
          go_ret
          exact ⟨ret_bool (by rw [Bool.true_and, HEQ.out]), below_drewN HEc.out _⟩
        · rw [if_neg c2] at hr
          by_cases c3 : k = 3
          · rw [if_pos c3, Bool.and_eq_true] at hr
            obtain ⟨b', o', ka, rfl, _, ha, hka, hcella⟩ := int_at HXc.out hr.1
            have hlo : loR x (k, a, b) = x.getD a.toNat 0 := by unfold loR; rw [if_neg (by show ¬ k = 1; omega)]
            have hhi : hiR x (k, a, b) = b := by unfold hiR; rw [if_pos (by show k = 3; omega)]
            obtain ⟨u, hu⟩ : ∃ v, v = x.getD a.toNat 0 := ⟨_, rfl⟩
            rw [← hu] at hcella
            have HQ := hide (fun j => HLQn.out j u b)
            obtain ⟨qq, hqq⟩ : ∃ q, q = Q u b := ⟨_, rfl⟩
            rw [← hqq] at HQ
            have HEQ := hide (show Q (loR x (k, a, b)) (hiR x (k, a, b)) = qq by rw [hlo, hhi, hqq, hu])
            subst c3
            subst ha
            have i2 : (0 : Int) ≤ (ka : Int) := by omega
            have i3 : (ka : Int) < (m : Int) := by have := HM.out; omega
            clear hr hlo hhi hu hqq hka c1 c2
            go_wp2_with fail
            go_quiet ((go_at_call 51; with_reducible exact HQ.out _))
            go_wp2_with fail
            go_ret
            exact ⟨ret_bool (by rw [Bool.true_and, HEQ.out]), below_drewN HEc.out _⟩
          · rw [if_neg c3] at hr; cases hr
end Go.Proofs.YtpjlhpaenmfieaaGreat
/- solve: wrong, walked. -/
namespace Go.Proofs.YtpjlhpaenmfieaaGreat
open Go.RowKit

def rBad (nl np : Int) (rs : List Ru) (i : Nat) : Option (Int × Int) := if rightR nl np (rl rs i) = true then none else some (20, i)
def solBad (nl np : Int) (rs : List Ru) : Int × Int := if np < 0 ∨ 64 < np then (1, 0) else if 512 < rs.length then (8, 512) else match firstOf (rBad nl np rs) rs.length with | some x => x | none => (0, 0)

set_option maxRecDepth 100000 in
set_option maxHeartbeats 2000000 in
theorem solWrong_any (g : Nat) (nl np : Int) (A : Option Addr) (c m : Nat) (rs : List Ru) (w : World) (hr : RlsAt w w.heap.size A rs) (hm : m = rs.length) (hm' : m ≤ 9223372036854775807)
    (hln : ∀ w1, Ext w w1 → Calls Tryz.prog 52 #[.pointer (some ⟨g, 0, none⟩)] w1 (fun e w' => e = .returned (.int .i64 nl) ∧ w1 = w')) :
    Calls Tryz.prog 59 #[.pointer (some ⟨g, 0, none⟩), .int .i64 np, .slice A m c] w (fun e w' => e = .returned (fltV (solBad nl np rs)) ∧ Ext w w') := by
  have hB : Blk (w.alloc (.cells #[.int .i64 0, .int .i64 0] 31)) w.heap.size 31 #[.int .i64 0, .int .i64 0] := Blk.new _ _ _
  have HB := hide hB
  have b0 := hB.cell 0
  have b1 := hB.cell 1
  have f0 := hB.free 0
  have f1 := hB.free 1
  simp only [List.getElem?_toArray, List.getElem?_cons_zero, List.getElem?_cons_succ] at b0 b1
  have HE0 := hide (show Ext w (w.alloc (.cells #[.int .i64 0, .int .i64 0] 31)) from (Ext.rfl' w).alloc (Nat.le_refl _) _)
  have HM := hide hm
  have HRS := hide hr
  have HLN := hide hln
  clear hB hm hr hln
  by_cases c0 : np < 0
  · have HX := hide (show solBad nl np rs = (1, 0) by unfold solBad; rw [if_pos (.inl c0)])
    go_enter Tryz.func59, Tryz.ntmps59
    go_wp2_with fail
    exact flt_ret (f := (1, 0)) (g := w.heap.size) (Blk.new _ _ _) rfl rfl rfl ⟨by rw [HX.out], (Ext.rfl' w).alloc (Nat.le_refl _) _⟩
  · by_cases c1 : 64 < np
    · have HX := hide (show solBad nl np rs = (1, 0) by unfold solBad; rw [if_pos (.inr c1)])
      go_enter Tryz.func59, Tryz.ntmps59
      go_wp2_with fail
      exact flt_ret (f := (1, 0)) (g := w.heap.size) (Blk.new _ _ _) rfl rfl rfl ⟨by rw [HX.out], (Ext.rfl' w).alloc (Nat.le_refl _) _⟩
    · by_cases c2 : (512 : Int) < (m : Int)
      · have HX := hide (show solBad nl np rs = (8, 512) by unfold solBad; rw [if_neg (by omega), if_pos (by have := HM.out; omega)])
        go_enter Tryz.func59, Tryz.ntmps59
        go_wp2_with fail
        exact flt_ret (f := (8, 512)) (g := w.heap.size) (Blk.new _ _ _) rfl rfl rfl ⟨by rw [HX.out], (Ext.rfl' w).alloc (Nat.le_refl _) _⟩
      · have HXX := hide (show ∀ o, firstOf (rBad nl np rs) rs.length = o → solBad nl np rs = (match o with | some x => x | none => (0, 0)) from fun o ho => by unfold solBad; rw [if_neg (by omega), if_neg (by have := HM.out; omega), ho])
        go_enter Tryz.func59, Tryz.ntmps59
        go_wp2_with fail
        go_loopw [28] (fun i wr => ∃ k : Nat, k ≤ m ∧ i = .int .i64 k ∧ Ext w wr ∧ Blk wr w.heap.size 31 #[.int .i64 0, .int .i64 0] ∧ Hid (∀ j, j < k → rBad nl np rs j = none)) (fun i _ => m - (intOf i).toNat)
        case atStart => exact ⟨0, Nat.zero_le _, rfl, HE0.out, HB.out, fun j hj => absurd hj (by omega)⟩
        case round =>
          clear b0 b1 f0 f1
          obtain ⟨k, hk, rfl, hE, hB, HA⟩ := hrel
          have HEr := hide hE
          have HBr := hide hB
          by_cases hkm : k < m
          · have hkl : k < rs.length := by rw [← HM.out]; exact hkm
            obtain ⟨b, o, rfl, hbs, hcell⟩ := HRS.out.cell (by omega)
            obtain ⟨p0, p1, p2⟩ := hcell k hkl
            have q0 := (hE.cell (p := ⟨b, o + k * 3, none⟩) hbs).trans p0
            have q1 := (hE.cell (p := ⟨b, o + k * 3 + 1, none⟩) hbs).trans p1
            have q2 := (hE.cell (p := ⟨b, o + k * 3 + 2, none⟩) hbs).trans p2
            have hbad : rBad nl np rs k = if rightR nl np ((rl rs k).1, (rl rs k).2.1, (rl rs k).2.2) = true then none else some (20, (k : Int)) := rfl
            obtain ⟨r0, hr0⟩ : ∃ r, r = (rl rs k).1 := ⟨_, rfl⟩
            obtain ⟨r1, hr1⟩ : ∃ r, r = (rl rs k).2.1 := ⟨_, rfl⟩
            obtain ⟨r2, hr2⟩ : ∃ r, r = (rl rs k).2.2 := ⟨_, rfl⟩
            rw [← hr0] at q0 hbad
            rw [← hr1] at q1 hbad
            rw [← hr2] at q2 hbad
            obtain ⟨w2, hw2⟩ : ∃ w2, w2 = wr.alloc (.cells #[.int .i64 r0, .int .i64 r1, .int .i64 r2] 106) := ⟨_, rfl⟩
            obtain ⟨gv, hgv⟩ : ∃ g, g = wr.heap.size := ⟨_, rfl⟩
            have hV : Blk w2 gv 106 #[.int .i64 r0, .int .i64 r1, .int .i64 r2] := by rw [hw2, hgv]; exact Blk.new _ _ _
            have HE2 := hide (show Ext w w2 by rw [hw2]; exact hE.alloc hE.size _)
            have HB2 := hide (show Blk w2 w.heap.size 31 #[.int .i64 0, .int .i64 0] by rw [hw2]; exact hB.alloc _)
            obtain ⟨R, hR⟩ : ∃ R, R = rightR nl np (r0, r1, r2) := ⟨_, rfl⟩
            rw [← hR] at hbad
            have HBAD := hide hbad
            have HRR := hide hR
            have HW2 := hide hw2
            have HGV := hide hgv
            have HV := hide hV
            clear hcell p0 p1 p2 hr0 hr1 hr2 hbad hR hw2 hgv hE hB
            go_upto_region 8 with fail
            rw [← HW2.out, ← HGV.out]
            go_cut [38] (fun v wx => v = .bool (!R) ∧ Ext w2 wx)
            case first =>
              refine wp_region_ext (by kernel_rfl) (by kernel_rfl) w2 (Ext.rfl' _) ?_
              intro I _ f hf hc
              have v0 : ∀ n, (f n).cell? ⟨gv, 0, none⟩ = some (.int .i64 r0) := fun n => (hV.ext (hf n)).cell 0
              have v1 : ∀ n, (f n).cell? ⟨gv, 1, none⟩ = some (.int .i64 r1) := fun n => (hV.ext (hf n)).cell 1
              have v2 : ∀ n, (f n).cell? ⟨gv, 2, none⟩ = some (.int .i64 r2) := fun n => (hV.ext (hf n)).cell 2
              have hr := fun n => fam_ext hf hc (solRight_any nl np r0 r1 r2 (f n))
              rw [show rightR nl np (r0, r1, r2) = R from HRR.out.symm] at hr
              have H1 := hide (fun n => fam_same (HLN.out (f n) (HE2.out.trans' (hf n))))
              have H2 := hide hr
              have HF := hide hf
              clear hV hf hc hr q0 q1 q2
              repeat (go_big_quiet_step ((first
                | (go_at_call 52; with_reducible exact H1.out _)
                | (go_at_call 94; with_reducible exact H2.out _))))
              refine wpQuiet_nil ?_
              rintro _ ⟨nq, rfl⟩
              go_wp2_with fail
              go_meet
              exact ⟨rfl, HF.out nq⟩
            case rest =>
              obtain ⟨rfl, hEc⟩ := hcut
              have HEc := hide (HE2.out.trans' hEc)
              have hBc := HB2.out.ext hEc
              have HBc := hide hBc
              have c0 := hBc.cell 0
              have c1 := hBc.cell 1
              have e0 := hBc.free 0
              have e1 := hBc.free 1
              simp only [List.getElem?_toArray, List.getElem?_cons_zero, List.getElem?_cons_succ] at c0 c1
              clear hEc hBc hV q0 q1 q2
              cases R with
              | false =>
                have HX := hide (HXX.out _ (firstOf_hit hkl HA.out HBAD.out))
                go_wp2_with fail
                exact flt_ret (f := (20, (k : Int))) (g := w.heap.size) ((HBc.out.set_ 0 _).set_ 1 _) rfl rfl rfl ⟨by rw [HX.out], ext_two HEc.out _ _⟩
              | true =>
                have HA2 := hide (below_step HA.out (show rBad nl np rs k = none from HBAD.out))
                clear HA
                go_wp2_with fail
                go_roundw
                case rel => exact ⟨k + 1, by omega, by go_num, HEc.out, HBc.out, HA2⟩
                case measure => simp [intOf]; omega
          · obtain rfl : k = m := by omega
            have HX := hide (HXX.out none (firstOf_miss.2 (by rw [← HM.out]; exact HA.out)))
            have c0 := hB.cell 0
            have c1 := hB.cell 1
            have e0 := hB.free 0
            have e1 := hB.free 1
            simp only [List.getElem?_toArray, List.getElem?_cons_zero, List.getElem?_cons_succ] at c0 c1
            clear hE hB
            go_wp2_with fail
            exact flt_ret (f := (0, 0)) (g := w.heap.size) ((HBr.out.set_ 0 _).set_ 1 _) rfl rfl rfl ⟨by rw [HX.out], ext_two HEr.out _ _⟩
theorem solWrong_nil (np : Int) (A : Option Addr) (c m : Nat) (w : World) : Calls Tryz.prog 59 #[.pointer none, .int .i64 np, .slice A m c] w (fun e w' => e = .returned (fltV (1, 0)) ∧ Ext w w') := by
  have hB : Blk (w.alloc (.cells #[.int .i64 0, .int .i64 0] 31)) w.heap.size 31 #[.int .i64 0, .int .i64 0] := Blk.new _ _ _
  have b0 := hB.cell 0
  have b1 := hB.cell 1
  have f0 := hB.free 0
  have f1 := hB.free 1
  simp only [List.getElem?_toArray, List.getElem?_cons_zero, List.getElem?_cons_succ] at b0 b1
  clear hB
  go_enter Tryz.func59, Tryz.ntmps59
  go_wp2_with fail
  exact flt_ret (f := (1, 0)) (g := w.heap.size) (Blk.new _ _ _) rfl rfl rfl ⟨rfl, (Ext.rfl' w).alloc (Nat.le_refl _) _⟩
end Go.Proofs.YtpjlhpaenmfieaaGreat
/- solve: the levels' array; the copy. -/
namespace Go.Proofs.YtpjlhpaenmfieaaGreat
open Go.RowKit

/-- The levels in the array. -/
def LvAt (w : World) (g : Nat) (x : List Nat) : Prop := ∃ cs : Array Value, Blk w g 145 cs ∧ cs.size = 64 ∧ ∀ p, p < x.length → cs[p]? = some (.int .i64 (x.getD p 0 : Nat))
theorem LvAt.ext {w w' : World} {g : Nat} {x : List Nat} (h : LvAt w g x) (hE : Ext w w') : LvAt w' g x := by
  obtain ⟨cs, hB, hs, hc⟩ := h
  exact ⟨cs, hB.ext hE, hs, hc⟩
theorem LvAt.lt {w : World} {g : Nat} {x : List Nat} (h : LvAt w g x) : g < w.heap.size := by
  obtain ⟨cs, hB, _⟩ := h
  exact hB.lt
theorem LvAt.cell {w : World} {g : Nat} {x : List Nat} (h : LvAt w g x) {p : Nat} (hp : p < x.length) : w.cell? ⟨g, p, none⟩ = some (.int .i64 (x.getD p 0 : Nat)) := by
  obtain ⟨cs, hB, hs, hc⟩ := h
  rw [hB.cell p, hc p hp]
theorem LvAt.any {w : World} {g : Nat} {x : List Nat} (h : LvAt w g x) {p : Nat} (hp : p < 64) : (∃ v, w.cell? ⟨g, p, none⟩ = some v) ∧ w.frozen? ⟨g, p, none⟩ = false := by
  obtain ⟨cs, hB, hs, hc⟩ := h
  exact ⟨⟨_, by rw [hB.cell p, Array.getElem?_eq_getElem (by omega)]⟩, hB.free p⟩
theorem LvAt.set_ {w : World} {g : Nat} {x : List Nat} (h : LvAt w g x) {b : Nat} (hb : b < x.length) (h64 : x.length ≤ 64) (v : Nat) : LvAt (w.setCell ⟨g, b, none⟩ (.int .i64 (v : Nat))) g (x.set b v) := by
  obtain ⟨cs, hB, hs, hc⟩ := h
  refine ⟨cs.setIfInBounds b (.int .i64 (v : Nat)), hB.set_ b _, by rw [Array.size_setIfInBounds]; exact hs, fun p hp => ?_⟩
  rw [List.length_set] at hp
  rw [Array.getElem?_setIfInBounds, LatM.getD_set hb]
  by_cases e : b = p
  · subst e; rw [if_pos rfl, if_pos (by omega), if_pos rfl]
  · rw [if_neg e, if_neg (fun h => e h.symm)]; exact hc p hp
theorem LvAt.more {w : World} {g : Nat} {x : List Nat} (h : LvAt w g x) (h64 : x.length < 64) (v : Nat) : LvAt (w.setCell ⟨g, x.length, none⟩ (.int .i64 (v : Nat))) g (x ++ [v]) := by
  obtain ⟨cs, hB, hs, hc⟩ := h
  refine ⟨cs.setIfInBounds x.length (.int .i64 (v : Nat)), hB.set_ x.length _, by rw [Array.size_setIfInBounds]; exact hs, fun p hp => ?_⟩
  rw [List.length_append, List.length_singleton] at hp
  rw [Array.getElem?_setIfInBounds]
  by_cases e : x.length = p
  · subst e
    rw [if_pos rfl, if_pos (by omega), List.getD_eq_getElem?_getD, List.getElem?_append_right (Nat.le_refl _)]
    simp
  · rw [if_neg e, List.getD_eq_getElem?_getD, List.getElem?_append_left (by omega), ← List.getD_eq_getElem?_getD]
    exact hc p (by omega)
theorem LvAt.ints {w : World} {g : Nat} {x : List Nat} (h : LvAt w g x) : IntAt w w.heap.size (some ⟨g, 0, none⟩) (x.map fun (v : Nat) => (v : Int)) := by
  refine ⟨by rw [intCells_length]; simp, fun _ => ⟨_, rfl, h.lt, fun j u hu => ?_⟩⟩
  have hj : j < x.length := by
    have := (List.getElem?_eq_some_iff.1 hu).1
    rw [intCells_length] at this
    simpa using this
  have e : (⟨g, 0, none⟩ : Addr).add j = ⟨g, j, none⟩ := by
    unfold Addr.add
    split
    · next h => rw [h]
    · simp
  rw [e, h.cell hj, ← hu]
  simp [intCells, hj]
/-- The levels, as the memory has them. -/
def readL (w : World) (g n : Nat) : List Nat := (List.range n).map fun p => match w.cell? ⟨g, p, none⟩ with | some (.int _ v) => v.toNat | _ => 0
theorem readL_eq {w : World} {g : Nat} {x : List Nat} (h : LvAt w g x) : readL w g x.length = x := by
  unfold readL
  apply List.ext_getElem (by simp)
  intro i h1 h2
  simp only [List.getElem_map, List.getElem_range, h.cell h2]
  simp [List.getD_eq_getElem?_getD, List.getElem?_eq_getElem h2]

theorem run_levels (g k : Nat) (hk : k ≤ 64) (w : World) : (Instr.sliceAt 145 (.pointer (some ⟨g, 0, none⟩)) none (some (.int .i64 (k : Int))) none).run Tryz.prog w = .ok (.slice (some ⟨g, 0, none⟩) k 64) w := by
  have h64 : Tryz.prog.arrayLen 145 = 64 := by kernel_rfl
  have hs : (sizeOf (Tryz.prog.elem 145)).run Tryz.prog w = .ok 1 w := by kernel_rfl
  have := run_sliceAt_array_h (P := Tryz.prog) w (t := 145) (a := ⟨g, 0, none⟩) (by kernel_rfl) .i64 (k : Int) (by omega) (by rw [h64]; omega)
  rw [this, h64, hs]
  simp [slicedAt, Addr.add]
theorem run_slice_nil (a : Addr) (n c : Nat) (w : World) : (binOp BinOp.eql 34 (.slice (some a) n c) (.slice none 0 0)).run Tryz.prog w = .ok (.bool false) w := by
  kernel_rfl
set_option maxRecDepth 100000 in
/-- The copy. -/
theorem clone_any (A : Option Addr) (c m : Nat) (l : List Nat) (w : World) (h : NatAt w w.heap.size A l) (hA : A ≠ none) (hm : m = l.length) (hm' : m ≤ 1000000) :
    Calls Tryz.prog 95 #[.slice A m c] w (SeesPost l w) := by
  obtain ⟨a, rfl⟩ := Option.ne_none_iff_exists'.1 hA
  have hq := fun w => run_slice_nil a m c w
  have HM := hide hm
  have HN := hide h
  clear hm h hA
  go_enter Tryz.func95, Tryz.ntmps95
  obtain ⟨i0, hi, hz, hs2, hb⟩ := info_int
  have hE1 : Ext w (w.alloc (.cells #[] 3)) := (Ext.rfl' w).alloc (Nat.le_refl _) _
  have hown : (w.alloc (.cells #[] 3)).ownsRow w.heap.size 3 1 (.slice (some ⟨w.heap.size, 0, none⟩) 0 0) 0 [] := ⟨rfl, .inr ⟨w.heap.size, 0, #[], rfl, Nat.le_refl _, heap_alloc_new w _, Nat.le_refl _, Nat.zero_le _, rfl, rfl⟩⟩
  have hrd : Reads (w.alloc (.cells #[] 3)) (w.alloc (.cells #[] 3)).heap.size 1 (some a) m (natCells l) := by
    have := HN.out.ext hE1
    unfold NatAt at this
    rw [← HM.out] at this
    exact this
  have HE1 := hide hE1
  have HOW := hide hown
  have HRD := hide hrd
  clear hE1 hown hrd
  go_wp2_with (at_builtin; refine wpList_append_sl _ rfl _ _ 34 rfl w.heap.size 3 i0 _ 1 8 Tryz.underlying34 hi hz hs2 hb rfl (by decide) _ 0 [] rfl HOW.out _ (some a) m c (natCells l) rfl HRD.out (by intro u hu; obtain ⟨q, _, rfl⟩ := List.mem_map.1 hu; rfl) (by unfold maxLen; omega) (by omega) (by simp) ?_)
  intro A3 c3 w3 hown3 hgrow3 _
  have HE3 := hide (grown_ext' (w := w) (wr := w.alloc (.cells #[] 3)) (base := w.heap.size) HE1.out (Ext.rfl' _) hgrow3 HOW.out (Nat.le_refl _))
  have HO3 := hide hown3
  clear hown3 hgrow3
  go_wp2_with fail
  go_ret
  refine ⟨A3, c3, by rw [← HM.out]; simp, ?_, HE3.out⟩
  have := Reads.of_own HO3.out
  unfold NatAt
  rw [← HM.out]
  exact this
def boolN (v : Value) : Nat := match v with | .bool true => 1 | _ => 0
theorem fits_of {n m : Nat} {r : Ru} (h : rightR n m r = true) : LatM.fitsR n m r := by
  unfold rightR at h
  by_cases c1 : r.1 = 1
  · rw [if_pos c1, Bool.and_eq_true, inZ_iff, inZ_iff] at h
    exact .inr ⟨by omega, fun _ => by omega, fun h' => absurd c1 h'⟩
  · rw [if_neg c1] at h
    by_cases c2 : r.1 = 2
    · rw [if_pos c2, Bool.and_eq_true, inZ_iff, inZ_iff] at h
      exact .inr ⟨by omega, fun h' => absurd h' c1, fun _ => by omega⟩
    · rw [if_neg c2] at h
      by_cases c3 : r.1 = 3
      · exact .inl c3
      · rw [if_neg c3] at h; cases h
theorem getD_cast (x : List Nat) (p : Nat) : (x.map fun (v : Nat) => (v : Int)).getD p 0 = (x.getD p 0 : Nat) := by
  rw [List.getD_eq_getElem?_getD, List.getD_eq_getElem?_getD, List.getElem?_map]
  cases x[p]? <;> rfl
theorem holds_ok {ws : List Wd} {os : List (Wd × Wd)} {m : Nat} {x : List Nat} {r : Ru} (h : rightR ws.length m r = true) (hm : x.length = m) (hx : ∀ v ∈ x, v < ws.length) (h3 : r.1 ≠ 3) : leqI ws os (loR (x.map fun (v : Nat) => (v : Int)) r) (hiR (x.map fun (v : Nat) => (v : Int)) r) = LatM.okR (leqL ws os) x r := by
  have hf := fits_of h
  have hlo := LatM.fromR_lt hm hx hf h3
  obtain hb : r.2.2.toNat < m := by
    rcases hf with h' | ⟨h1, _⟩
    · exact absurd h' h3
    · exact h1
  have hhi := LatM.getD_lt hx (show r.2.2.toNat < x.length by omega)
  have e1 : loR (x.map fun (v : Nat) => (v : Int)) r = (LatM.fromR x r : Nat) := by
    unfold loR LatM.fromR
    by_cases c : r.1 = 1
    · rw [if_pos c, if_pos c]
      unfold rightR at h
      rw [if_pos c, Bool.and_eq_true, inZ_iff, inZ_iff] at h
      omega
    · rw [if_neg c, if_neg c, getD_cast]
  have e2 : hiR (x.map fun (v : Nat) => (v : Int)) r = (x.getD r.2.2.toNat 0 : Nat) := by
    unfold hiR
    rw [if_neg h3, getD_cast]
  rw [e1, e2]
  unfold leqI LatM.okR
  rw [hasI_nat hlo, hasI_nat hhi, Int.toNat_natCast, Int.toNat_natCast, decide_eq_false h3]
  simp

end Go.Proofs.YtpjlhpaenmfieaaGreat
/- solve: least, walked. -/
namespace Go.Proofs.YtpjlhpaenmfieaaGreat
open Go.RowKit

def LeastPost (ws : List Wd) (os : List (Wd × Wd)) (np : Nat) (rs : List Ru) (w : World) (e : Ending) (w' : World) : Prop := ∃ x, LatM.Lst ws.length np (leqL ws os) rs x ∧ SeesPost x w e w'
theorem rl_mem {rs : List Ru} {k : Nat} (hk : k < rs.length) : rl rs k ∈ rs := by
  unfold rl
  rw [List.getD_eq_getElem?_getD, List.getElem?_eq_getElem hk]
  exact List.getElem_mem hk
theorem all_rl {rs : List Ru} {p : Ru → Prop} (h : ∀ q, q < rs.length → p (rl rs q)) : ∀ r ∈ rs, p r := by
  intro r hr
  obtain ⟨i, hi, rfl⟩ := List.getElem_of_mem hr
  have := h i hi
  unfold rl at this
  rw [List.getD_eq_getElem?_getD, List.getElem?_eq_getElem hi] at this
  exact this
set_option maxRecDepth 100000 in
set_option maxHeartbeats 8000000 in
theorem solLeast_any (g : Nat) (ws : List Wd) (os : List (Wd × Wd)) (np : Nat) (A : Option Addr) (c m : Nat) (rs : List Ru) (w : World) (h : LatAt w g ws os) (gd : GoodL ws os) (hr : RlsAt w w.heap.size A rs) (hm : m = rs.length) (hm' : m ≤ 1000000) (hnp : np ≤ 64) (hfit : ∀ r ∈ rs, rightR ws.length np r = true) :
    Calls Tryz.prog 60 #[.pointer (some ⟨g, 0, none⟩), .int .i64 np, .slice A m c] w (LeastPost ws os np rs w) := by
  have HBot := hide (fun (w1 : World) (hE : Ext w w1) => latBottom_any g ws os w1 (h.ext hE) gd.few gd.lat.turn)
  have hw0 := LatM.Way.start (m := np) gd.lat rs
  rw [show LatM.botN ws.length (leqL ws os) = LatM.topN ws.length (turnL (leqL ws os)) from rfl] at hw0
  obtain ⟨bt, hbt⟩ : ∃ b, b = LatM.topN ws.length (turnL (leqL ws os)) := ⟨_, rfl⟩
  rw [← hbt] at HBot hw0
  have HWY0 := hide hw0
  clear hw0
  obtain ⟨w1, hw1⟩ : ∃ w1, w1 = w.alloc (.cells (List.replicate 64 (.int .i64 0)).toArray 145) := ⟨_, rfl⟩
  obtain ⟨ga, hga⟩ : ∃ g, g = w.heap.size := ⟨_, rfl⟩
  have hE1 : Ext w w1 := by rw [hw1]; exact (Ext.rfl' w).alloc (Nat.le_refl _) _
  have hL0 : LvAt w1 ga [] := ⟨_, by rw [hw1, hga]; exact Blk.new _ _ _, by simp, fun p hp => absurd hp (by simp)⟩
  have HW1 := hide hw1
  have HGA := hide hga
  have HE1 := hide hE1
  have HL0 := hide hL0
  have HM := hide hm
  have HRS := hide hr
  clear hw1 hga hE1 hL0 hm hr hbt
  go_enter Tryz.func60, Tryz.ntmps60
  go_upto_region 2 with fail
  rw [show w.alloc (Obj.cells #[.int .i64 0, .int .i64 0, .int .i64 0, .int .i64 0, .int .i64 0, .int .i64 0, .int .i64 0, .int .i64 0, .int .i64 0, .int .i64 0, .int .i64 0, .int .i64 0, .int .i64 0, .int .i64 0, .int .i64 0, .int .i64 0, .int .i64 0, .int .i64 0, .int .i64 0, .int .i64 0, .int .i64 0, .int .i64 0, .int .i64 0, .int .i64 0, .int .i64 0, .int .i64 0, .int .i64 0, .int .i64 0, .int .i64 0, .int .i64 0, .int .i64 0, .int .i64 0, .int .i64 0, .int .i64 0, .int .i64 0, .int .i64 0, .int .i64 0, .int .i64 0, .int .i64 0, .int .i64 0, .int .i64 0, .int .i64 0, .int .i64 0, .int .i64 0, .int .i64 0, .int .i64 0, .int .i64 0, .int .i64 0, .int .i64 0, .int .i64 0, .int .i64 0, .int .i64 0, .int .i64 0, .int .i64 0, .int .i64 0, .int .i64 0, .int .i64 0, .int .i64 0, .int .i64 0, .int .i64 0, .int .i64 0, .int .i64 0, .int .i64 0, .int .i64 0] 145) = w1 from HW1.out.symm, ← HGA.out]
  go_wp2_with fail
  go_loopw [14] (fun i wr => ∃ k : Nat, k ≤ np ∧ i = .int .i64 (k : Int) ∧ Ext w wr ∧ LvAt wr ga (List.replicate k bt)) (fun i _ => np - (intOf i).toNat)
  case atStart => exact ⟨0, Nat.zero_le _, rfl, HE1.out, HL0.out⟩
  case round =>
    obtain ⟨k, hk, rfl, hE, hL⟩ := hrel
    by_cases hkn : k < np
    · have HE := hide hE
      have HL := hide hL
      have HB := hide (HBot.out wr hE)
      have hmore := hL.more (by simp; omega) bt
      rw [List.length_replicate, ← List.replicate_succ'] at hmore
      have HMO := hide hmore
      obtain ⟨⟨v0, hc0⟩, hf0⟩ := hL.any (show k < 64 by omega)
      have i0 : (0 : Int) ≤ (k : Int) := by omega
      have i1 : (k : Int) < 64 := by omega
      clear hE hL hmore
      go_wp2_with fail
      refine HB.out.mono ?_
      rintro e w' ⟨rfl, rfl⟩
      go_wp2_with fail
      go_roundw
      case rel => exact ⟨k + 1, by omega, by go_num, HE.out.setCell (by rw [HGA.out]; exact Nat.le_refl _) _, HMO.out⟩
      case measure => simp [intOf]; omega
    · obtain rfl : k = np := by omega
      have HE := hide hE
      have HL := hide hL
      clear hE hL
      have HGD := hide gd
      have HFIT := hide hfit
      have HLAT := hide h
      go_wp2_with fail
      go_loopw [9] (fun ch wr => ∃ (b : Bool) (x : List Nat), ch = .bool b ∧ Ext w wr ∧ LvAt wr ga x ∧ Hid (LatM.Way ws.length k (leqL ws os) rs x) ∧ Hid (b = false → ∀ r ∈ rs, LatM.okR (leqL ws os) x r = true)) (fun ch wr => LatM.upR ws.length (leqL ws os) (readL wr ga k) + boolN ch)
      case atStart => exact ⟨true, _, rfl, HE.out, HL.out, HWY0, fun h => by cases h⟩
      case round =>
        obtain ⟨b, x, rfl, hE, hL, HWY, HOK⟩ := hrel
        have hme := readL_eq hL
        rw [HWY.out.len] at hme
        rw [hme]
        have HE2 := hide hE
        have HL2 := hide hL
        clear hE hL hme
        cases b with
        | false =>
          have HLST := hide (HWY.out.lst (HOK.out rfl))
          have hsl := run_levels ga k hnp
          have hna : NatAt wr wr.heap.size (some ⟨ga, 0, none⟩) x := by
            have := HL2.out.ints
            unfold IntAt at this
            rw [List.length_map, show intCells (x.map fun (n : Nat) => (n : Int)) = natCells x by simp [intCells, natCells]] at this
            exact this
          have HCL := hide (clone_any (some ⟨ga, 0, none⟩) 64 k x wr hna (by intro h; cases h) HWY.out.len.symm (by omega))
          clear hna
          go_wp2_with fail
          refine HCL.out.mono ?_
          rintro e w9 ⟨A9, c9, rfl, hN9, hE9⟩
          have HN9 := hide hN9
          have HE9 := hide (HE2.out.trans' hE9)
          clear hN9 hE9 hsl
          go_wp2_with fail
          go_ret
          exact ⟨x, HLST.out, A9, c9, rfl, HN9.out, HE9.out⟩
        | true =>
          clear HOK
          go_wp2_with fail
          go_loopw [25, 9] (fun i ch wx => ∃ (j : Nat) (b2 : Bool) (y : List Nat), j ≤ m ∧ i = .int .i64 (j : Int) ∧ ch = .bool b2 ∧ Ext w wx ∧ LvAt wx ga y ∧ Hid (LatM.Way ws.length k (leqL ws os) rs y) ∧ Hid ((b2 = false ∧ y = x ∧ ∀ q, q < j → LatM.okR (leqL ws os) x (rl rs q) = true) ∨ (b2 = true ∧ LatM.upR ws.length (leqL ws os) y < LatM.upR ws.length (leqL ws os) x))) (fun i _ _ => m - (intOf i).toNat)
          case atStart => exact ⟨0, false, x, Nat.zero_le _, rfl, rfl, HE2.out, HL2.out, HWY, .inl ⟨rfl, rfl, fun q hq => absurd hq (by omega)⟩⟩
          case round =>
            obtain ⟨j, b2, y, hj, rfl, rfl, hE, hL, HWy, HIN⟩ := hrel
            have HE3 := hide hE
            have HL3 := hide hL
            by_cases hjm : j < m
            · have hjl : j < rs.length := by rw [← HM.out]; exact hjm
              obtain ⟨b, o, rfl, hbs, hcell⟩ := HRS.out.cell (by omega)
              obtain ⟨p0, p1, p2⟩ := hcell j hjl
              have q0 := (hE.cell (p := ⟨b, o + j * 3, none⟩) hbs).trans p0
              have q1 := (hE.cell (p := ⟨b, o + j * 3 + 1, none⟩) hbs).trans p1
              have q2 := (hE.cell (p := ⟨b, o + j * 3 + 2, none⟩) hbs).trans p2
              have hmem := rl_mem hjl
              obtain ⟨r, hr⟩ : ∃ r, r = rl rs j := ⟨_, rfl⟩
              rw [← hr] at q0 q1 q2 hmem
              have HMEM := hide hmem
              have HR := hide hr
              obtain ⟨r0, r1, r2⟩ := r
              obtain ⟨w2, hw2⟩ : ∃ w2, w2 = wr.alloc (.cells #[.int .i64 r0, .int .i64 r1, .int .i64 r2] 106) := ⟨_, rfl⟩
              obtain ⟨gv, hgv⟩ : ∃ g, g = wr.heap.size := ⟨_, rfl⟩
              have hV : Blk w2 gv 106 #[.int .i64 r0, .int .i64 r1, .int .i64 r2] := by rw [hw2, hgv]; exact Blk.new _ _ _
              have hEx : Ext wr w2 := by rw [hw2]; exact (Ext.rfl' wr).alloc (Nat.le_refl _) _
              have HE2b := hide (hE.trans' hEx)
              have HL2b := hide (hL.ext hEx)
              have HW2 := hide hw2
              have HGV := hide hgv
              have HV := hide hV
              have v0 := hV.cell 0
              have v1 := hV.cell 1
              have v2 := hV.cell 2
              simp only [List.getElem?_toArray, List.getElem?_cons_zero, List.getElem?_cons_succ] at v0 v1 v2
              have HMm := hide (show j < m from hjm)
              clear hcell p0 p1 p2 hr hmem hw2 hgv hE hL hEx hV
              by_cases h3 : r0 = 3
              · subst h3
                go_upto_region 13 with fail
                rw [← HW2.out, ← HGV.out]
                go_quiet (fail)
                go_wp2_with fail
                go_roundw
                case rel => exact ⟨j + 1, b2, y, by omega, by go_num, rfl, below_drewN HE2b.out _, HL2b.out.ext (below_drewN (Ext.rfl' _) _), HWy, hide (by
                  rcases HIN.out with ⟨h1, h2, h3⟩ | h
                  · refine .inl ⟨h1, h2, fun q hq => ?_⟩
                    by_cases e : q = j
                    · subst e; rw [← HR.out]; rfl
                    · exact h3 q (by omega)
                  · exact .inr h)⟩
                case measure => simp [intOf]; omega
              · have hne : (r0 == 3) = false := by simpa using h3
                have H3 := hide h3
                clear h3
                obtain ⟨ok, hok⟩ : ∃ b, b = LatM.okR (leqL ws os) y (r0, r1, r2) := ⟨_, rfl⟩
                have HOKR := hide hok
                clear hok
                go_upto_region 13 with fail
                rw [← HW2.out, ← HGV.out]
                go_cut [38] (fun v wx => v = .bool ok ∧ Ext w2 wx)
                case first =>
                  refine wp_region_ext (by kernel_rfl) (by kernel_rfl) w2 (Ext.rfl' _) ?_
                  intro I _ f hf hc
                  have u0 : ∀ n, (f n).cell? ⟨gv, 0, none⟩ = some (.int .i64 r0) := fun n => (HV.out.ext (hf n)).cell 0
                  have u1 : ∀ n, (f n).cell? ⟨gv, 1, none⟩ = some (.int .i64 r1) := fun n => (HV.out.ext (hf n)).cell 1
                  have u2 : ∀ n, (f n).cell? ⟨gv, 2, none⟩ = some (.int .i64 r2) := fun n => (HV.out.ext (hf n)).cell 2
                  have hsl := run_levels ga k hnp
                  have hh := fun n => fam_ext hf hc (solHolds_any (some ⟨g, 0, none⟩) (leqI ws os) ws.length (some ⟨ga, 0, none⟩) 64 k (y.map fun (v : Nat) => (v : Int)) r0 r1 r2 (f n) (HL2b.out.ext (hf n)).ints (by rw [List.length_map]; exact HWy.out.len.symm) (by omega) (fun w1 h1 => latLen_any g ws os w1 (HLAT.out.ext (HE2b.out.trans' ((hf n).trans' h1)))) (fun w1 h1 => latLeq_any g ws os w1 (HLAT.out.ext (HE2b.out.trans' ((hf n).trans' h1))) (prs_ok HGD.out.found)))
                  rw [List.length_map, HWy.out.len, HFIT.out _ HMEM.out, Bool.true_and, holds_ok (HFIT.out _ HMEM.out) HWy.out.len HWy.out.lt H3.out, ← HOKR.out] at hh
                  have H1 := hide hh
                  have HF := hide hf
                  clear hf hc hh v0 v1 v2 q0 q1 q2
                  repeat (go_big_quiet_step ((first
                    | (go_at_call 61; with_reducible exact H1.out _))))
                  refine wpQuiet_nil ?_
                  rintro _ ⟨nq, rfl⟩
                  go_wp2_with fail
                  go_meet
                  exact ⟨rfl, HF.out nq⟩
                case rest =>
                  obtain ⟨rfl, hEc⟩ := hcut
                  have HEc := hide (HE2b.out.trans' hEc)
                  have HLc := hide (HL2b.out.ext hEc)
                  have HVc := hide (HV.out.ext hEc)
                  clear hEc v0 v1 v2 q0 q1 q2
                  cases ok with
                  | true =>
                    go_wp2_with fail
                    go_roundw
                    case rel => exact ⟨j + 1, b2, y, by omega, by go_num, rfl, HEc.out, HLc.out, HWy, hide (by
                      rcases HIN.out with ⟨h1, h2, h3⟩ | h
                      · refine .inl ⟨h1, h2, fun q hq => ?_⟩
                        by_cases e : q = j
                        · subst e; rw [← HR.out, ← h2]; exact HOKR.out.symm
                        · exact h3 q (by omega)
                      · exact .inr h)⟩
                    case measure => simp [intOf]; omega
                  | false =>
                    have hri := HFIT.out _ HMEM.out
                    obtain ⟨kb, hkb, hkn⟩ : ∃ kb : Nat, r2 = kb ∧ kb < k := by
                      rcases fits_of hri with h' | ⟨h1, _⟩
                      · exact absurd h' H3.out
                      · refine ⟨r2.toNat, ?_, h1⟩
                        unfold rightR at hri
                        by_cases c1 : r0 = 1
                        · rw [if_pos c1, Bool.and_eq_true, inZ_iff, inZ_iff] at hri; simp only at hri; omega
                        · rw [if_neg c1] at hri
                          by_cases c2 : r0 = 2
                          · rw [if_pos c2, Bool.and_eq_true, inZ_iff, inZ_iff] at hri; simp only at hri; omega
                          · rw [if_neg c2, if_neg H3.out] at hri; cases hri
                    have hyl := HWy.out.len
                    have hcb := HLc.out.cell (p := kb) (by omega)
                    obtain ⟨fr, hfr⟩ : ∃ f, f = LatM.fromR y (r0, r1, r2) := ⟨_, rfl⟩
                    have hfrl : fr < ws.length := by rw [hfr]; exact LatM.fromR_lt hyl HWy.out.lt (fits_of hri) H3.out
                    obtain ⟨yb, hyb⟩ : ∃ v, v = y.getD kb 0 := ⟨_, rfl⟩
                    have hybl : yb < ws.length := by rw [hyb]; exact LatM.getD_lt HWy.out.lt (by omega)
                    rw [← hyb] at hcb
                    have hst : LatM.stepR ws.length (leqL ws os) y (r0, r1, r2) = y.set kb (LatM.jn ws.length (leqL ws os) yb fr) := by
                      unfold LatM.stepR
                      rw [if_neg (by rw [← HOKR.out]; decide), ← hfr, hyb, hkb]
                      rfl
                    have HWn := hide (LatM.Way.step HGD.out.lat HWy.out HMEM.out (fits_of hri))
                    have hlt := LatM.stepR_less HGD.out.lat hyl HWy.out.lt (fits_of hri) HOKR.out.symm
                    rw [hst] at HWn hlt
                    obtain ⟨nv, hnv⟩ : ∃ v, v = LatM.jn ws.length (leqL ws os) yb fr := ⟨_, rfl⟩
                    have hjn : joinI ws.length (leqL ws os) yb fr = (nv : Nat) := by rw [joinI_nat hybl hfrl, hnv]; exact (LatM.jn_eq HGD.out.lat hybl hfrl).1
                    rw [← hnv] at HWn hlt
                    have HLT := hide hlt
                    have HJ := hide (fun (w1 : World) (hE : Ext wc w1) => by
                      have := latJoin_any g ws os w1 (HLAT.out.ext (HEc.out.trans' hE)) HGD.out.few yb fr
                      rwa [hjn] at this)
                    have hE17 : Ext wc wc.drew := below_drewN (Ext.rfl' _) 1
                    have HJ1 := hide (HJ.out _ hE17)
                    have e0 := HVc.out.cell 0
                    have e1 := HVc.out.cell 1
                    have e2 := HVc.out.cell 2
                    simp only [List.getElem?_toArray, List.getElem?_cons_zero, List.getElem?_cons_succ] at e0 e1 e2
                    have d0 := (HVc.out.ext hE17).cell 0
                    have d1 := (HVc.out.ext hE17).cell 1
                    have d2 := (HVc.out.ext hE17).cell 2
                    simp only [List.getElem?_toArray, List.getElem?_cons_zero, List.getElem?_cons_succ] at d0 d1 d2
                    have hcbd : wc.drew.cell? ⟨ga, kb, none⟩ = some (.int .i64 (yb : Nat)) := (hE17.cell (p := ⟨ga, kb, none⟩) HLc.out.lt).trans hcb
                    subst hkb
                    obtain ⟨⟨vv, hvv⟩, hfz⟩ := (HLc.out.ext hE17).any (show kb < 64 by omega)
                    have hgab := HLc.out.lt
                    have i0 : (0 : Int) ≤ (kb : Int) := by omega
                    have i1 : (kb : Int) < 64 := by omega
                    have HEND := hide (show Ext w (wc.drew.setCell ⟨ga, kb, none⟩ (.int .i64 (nv : Nat))) ∧ LvAt (wc.drew.setCell ⟨ga, kb, none⟩ (.int .i64 (nv : Nat))) ga (y.set kb nv) from ⟨(HEc.out.trans' hE17).setCell (by rw [HGA.out]; exact Nat.le_refl _) _, (HLc.out.ext hE17).set_ (by omega) (by omega) nv⟩)
                    have HYN := hide (show y.length = k from hyl)
                    have HFR := hide hfr
                    have HRI := hide hri
                    have H30 := H3.out
                    have hfin : ∀ wz, wz = wc.drew.setCell ⟨ga, kb, none⟩ (.int .i64 (nv : Nat)) → ∃ (j' : Nat) (b2' : Bool) (y' : List Nat), j' ≤ m ∧ (Value.int .i64 ((j : Int) + 1)) = .int .i64 (j' : Int) ∧ (Value.bool true) = .bool b2' ∧ Ext w wz ∧ LvAt wz ga y' ∧ Hid (LatM.Way ws.length k (leqL ws os) rs y') ∧ Hid ((b2' = false ∧ y' = x ∧ ∀ q, q < j' → LatM.okR (leqL ws os) x (rl rs q) = true) ∨ (b2' = true ∧ LatM.upR ws.length (leqL ws os) y' < LatM.upR ws.length (leqL ws os) x)) := by
                      rintro wz rfl
                      refine ⟨j + 1, true, _, by omega, by push_cast; rfl, rfl, HEND.out.1, HEND.out.2, HWn, hide (.inr ⟨rfl, ?_⟩)⟩
                      rcases HIN.out with ⟨_, h2, _⟩ | ⟨_, h⟩
                      · rw [← h2]; exact HLT.out
                      · exact Nat.lt_trans HLT.out h
                    have HFIN := hide hfin
                    clear hyl hlt hjn hnv hst hri hfrl hybl hyb hcb hfin
                    by_cases c1 : r0 = 1
                    · obtain rfl : r1 = (fr : Int) := by
                        have := HRI.out
                        unfold rightR at this
                        rw [if_pos c1, Bool.and_eq_true, inZ_iff, inZ_iff] at this
                        rw [hfr]
                        unfold LatM.fromR
                        rw [if_pos c1]
                        simp only at this ⊢
                        omega
                      subst c1
                      clear hfr
                      go_upto_region 17 with fail
                      go_still_tail 10, (by kernel_rfl)
                      still_call (HJ1.out.mono fun e w' h => ⟨h.1, h.2.symm⟩)
                      repeat still_step
                      refine wpStill_nil ?_
                      change wpList _ _ _ _ _ wc.drew
                      go_wp2_with fail
                      go_roundw
                      case rel => exact HFIN.out _ rfl
                      case measure => simp [intOf]; omega
                    · obtain ⟨c2, ka, rfl, hka⟩ : r0 = 2 ∧ ∃ ka : Nat, r1 = ka ∧ ka < k := by
                        have := HRI.out
                        unfold rightR at this
                        rw [if_neg c1] at this
                        by_cases c2 : r0 = 2
                        · rw [if_pos c2, Bool.and_eq_true, inZ_iff, inZ_iff] at this
                          simp only at this
                          exact ⟨c2, r1.toNat, by omega, by omega⟩
                        · rw [if_neg c2, if_neg H30] at this; cases this
                      have hca := HLc.out.cell (p := ka) (by rw [HYN.out]; exact hka)
                      have hfa : fr = y.getD ka 0 := by
                        rw [hfr]
                        unfold LatM.fromR
                        rw [if_neg c1]
                        rfl
                      rw [← hfa] at hca
                      have i2 : (0 : Int) ≤ (ka : Int) := by omega
                      have i3 : (ka : Int) < 64 := by omega
                      subst c2
                      clear hfr hfa c1 H30
                      go_upto_region 17 with fail
                      go_still_tail 10, (by kernel_rfl)
                      still_call (HJ1.out.mono fun e w' h => ⟨h.1, h.2.symm⟩)
                      repeat still_step
                      refine wpStill_nil ?_
                      change wpList _ _ _ _ _ wc.drew
                      go_wp2_with fail
                      go_roundw
                      case rel => exact HFIN.out _ rfl
                      case measure => simp [intOf]; omega
            · obtain rfl : j = m := by omega
              clear hE hL
              go_wp2_with fail
              go_roundw
              case rel => exact ⟨b2, y, rfl, HE3.out, HL3.out, HWy, fun hb => by
                rcases HIN.out with ⟨_, h2, h3⟩ | ⟨h1, _⟩
                · rw [h2]; exact all_rl (by rw [← HM.out]; exact h3)
                · rw [hb] at h1; cases h1⟩
              case measure =>
                have hme := readL_eq HL3.out
                rw [HWy.out.len] at hme
                rw [hme]
                rcases HIN.out with ⟨h1, h2, _⟩ | ⟨h1, h2⟩
                · rw [h1, h2]; simp [boolN]
                · rw [h1]; simp [boolN]; omega
end Go.Proofs.YtpjlhpaenmfieaaGreat
/- solve: Solve, walked. -/
namespace Go.Proofs.YtpjlhpaenmfieaaGreat
open Go.RowKit

theorem firstOf_some {f : Nat → Option (Int × Int)} {n : Nat} {x : Int × Int} (h : firstOf f n = some x) : ∃ i, i < n ∧ f i = some x := by
  unfold firstOf at h
  obtain ⟨i, hi, e⟩ := List.exists_of_findSome?_eq_some h
  exact ⟨i, List.mem_range.1 hi, e⟩
theorem solBad_ok {nl np : Int} {rs : List Ru} (h : (solBad nl np rs).1 = 0) : solBad nl np rs = (0, 0) ∧ 0 ≤ np ∧ np ≤ 64 ∧ rs.length ≤ 512 ∧ ∀ r ∈ rs, rightR nl np r = true := by
  unfold solBad at h ⊢
  by_cases c0 : np < 0 ∨ 64 < np
  · rw [if_pos c0] at h; cases h
  · rw [if_neg c0] at h ⊢
    by_cases c1 : 512 < rs.length
    · rw [if_pos c1] at h; cases h
    · rw [if_neg c1] at h ⊢
      cases hf : firstOf (rBad nl np rs) rs.length with
      | some x =>
        rw [hf] at h
        obtain ⟨i, _, h2⟩ := firstOf_some hf
        unfold rBad at h2
        split at h2
        · cases h2
        · injection h2 with h2; rw [← h2] at h; cases h
      | none =>
        refine ⟨rfl, by omega, by omega, by omega, all_rl fun q hq => ?_⟩
        have := firstOf_miss.1 hf q hq
        unfold rBad at this
        split at this
        · assumption
        · cases this
def hBad (ws : List Wd) (os : List (Wd × Wd)) (x : List Nat) (rs : List Ru) (i : Nat) : Option (Int × Int) := if holdsR ws os (x.map fun (v : Nat) => (v : Int)) (rl rs i) = true then none else some (18, (i : Int))
def SolAns (ws : List Wd) (os : List (Wd × Wd)) (np : Int) (rs : List Ru) (y : List Nat) (f : Int × Int) : Prop :=
  ((solBad ws.length np rs).1 ≠ 0 ∧ f = solBad ws.length np rs ∧ y = []) ∨
  ((solBad ws.length np rs).1 = 0 ∧ ∃ x, LatM.Lst ws.length np.toNat (leqL ws os) rs x ∧ ((firstOf (hBad ws os x rs) rs.length = some f ∧ y = []) ∨ (firstOf (hBad ws os x rs) rs.length = none ∧ f = (0, 0) ∧ y = x)))
def SolPost (ws : List Wd) (os : List (Wd × Wd)) (np : Int) (rs : List Ru) (w : World) (e : Ending) (w' : World) : Prop :=
  ∃ y f A c, e = .returned (.tuple #[.slice A y.length c, fltV f]) ∧ NatAt w' w'.heap.size A y ∧ Ext w w' ∧ SolAns ws os np rs y f
theorem SolPost.bad {ws : List Wd} {os : List (Wd × Wd)} {np : Int} {rs : List Ru} {w w' : World} {f : Int × Int} (h : SolAns ws os np rs [] f) (hE : Ext w w') : SolPost ws os np rs w (.returned (.tuple #[.slice none 0 0, fltV f])) w' := ⟨[], f, none, 0, rfl, Reads.none_, hE, h⟩

set_option maxRecDepth 100000 in
set_option maxHeartbeats 4000000 in
theorem solve_any (g : Nat) (ws : List Wd) (os : List (Wd × Wd)) (np : Int) (A : Option Addr) (c m : Nat) (rs : List Ru) (w : World) (h : LatAt w g ws os) (gd : GoodL ws os) (hr : RlsAt w w.heap.size A rs) (hm : m = rs.length) (hm' : m ≤ 1000000) :
    Calls Tryz.prog 26 #[.pointer (some ⟨g, 0, none⟩), .int .i64 np, .slice A m c] w (SolPost ws os np rs w) := by
  have HWR := hide (fun (w1 : World) (hE : Ext w w1) => solWrong_any g ws.length np A c m rs w1 (hr.ext hE) hm (by omega) (fun w2 h2 => latLen_any g ws os w2 (h.ext (hE.trans' h2))))
  have HLE := hide (fun (k : Nat) (hk : k ≤ 64) (hf : ∀ r ∈ rs, rightR ws.length k r = true) (w1 : World) (hE : Ext w w1) => solLeast_any g ws os k A c m rs w1 (h.ext hE) gd (hr.ext hE) hm hm' hk hf)
  have HHO := hide (fun (x : List Nat) (A9 : Option Addr) (c9 : Nat) (hx9 : x.length ≤ 64) (r0 r1 r2 : Int) (w1 : World) (hE : Ext w w1) (hN : NatAt w1 w1.heap.size A9 x) => solHolds_any (some ⟨g, 0, none⟩) (leqI ws os) ws.length A9 c9 x.length (x.map fun (v : Nat) => (v : Int)) r0 r1 r2 w1 hN.ints (by rw [List.length_map]) (by omega) (fun w2 h2 => latLen_any g ws os w2 (h.ext (hE.trans' h2))) (fun w2 h2 => latLeq_any g ws os w2 (h.ext (hE.trans' h2)) (prs_ok gd.found)))
  have HRS := hide hr
  have HM := hide hm
  obtain ⟨bd, hbd⟩ : ∃ b, b = solBad ws.length np rs := ⟨_, rfl⟩
  rw [← hbd] at HWR
  have HBD := hide hbd
  obtain ⟨bd1, bd2⟩ := bd
  have hB : Blk (w.alloc (.cells #[.int .i64 0, .int .i64 0] 31)) w.heap.size 31 #[.int .i64 0, .int .i64 0] := Blk.new _ _ _
  have HB := hide hB
  have HE0 := hide (show Ext w (w.alloc (.cells #[.int .i64 0, .int .i64 0] 31)) from (Ext.rfl' w).alloc (Nat.le_refl _) _)
  clear hr hm hbd h hB
  go_enter Tryz.func26, Tryz.ntmps26
  go_wp2_with fail
  refine (HWR.out _ HE0.out).mono ?_
  rintro e w2 ⟨rfl, hE2⟩
  have HB2 := hide (HB.out.ext hE2)
  have HE2 := hide (HE0.out.trans' hE2)
  obtain ⟨w3, hw3⟩ : ∃ w3, w3 = w2.alloc (.cells #[.int .i64 bd1, .int .i64 bd2] 31) := ⟨_, rfl⟩
  obtain ⟨g3, hg3⟩ : ∃ g3, g3 = w2.heap.size := ⟨_, rfl⟩
  have hV : Blk w3 g3 31 #[.int .i64 bd1, .int .i64 bd2] := by rw [hw3, hg3]; exact Blk.new _ _ _
  have HV := hide hV
  have HE3 := hide (show Ext w w3 by rw [hw3]; exact HE2.out.alloc HE2.out.size _)
  have HB3 := hide (show Blk w3 w.heap.size 31 #[.int .i64 0, .int .i64 0] by rw [hw3]; exact HB2.out.alloc _)
  have v0 := hV.cell 0
  have v1 := hV.cell 1
  simp only [List.getElem?_toArray, List.getElem?_cons_zero, List.getElem?_cons_succ] at v0 v1
  have HW3 := hide hw3
  have HG3 := hide hg3
  clear hE2 hw3 hg3 hV HWR
  unfold fltV
  go_upto_region 2 with fail
  rw [← HW3.out, ← HG3.out]
  by_cases hb : bd1 = 0
  · obtain ⟨hz, h0, h64, hfew, hfit⟩ := solBad_ok (nl := ws.length) (np := np) (rs := rs) (by rw [← HBD.out]; exact hb)
    obtain ⟨k, rfl⟩ := Int.eq_ofNat_of_zero_le h0
    have HANS := hide (show ∀ x, LatM.Lst ws.length k (leqL ws os) rs x → ∀ y f, ((firstOf (hBad ws os x rs) rs.length = some f ∧ y = []) ∨ (firstOf (hBad ws os x rs) rs.length = none ∧ f = (0, 0) ∧ y = x)) → SolAns ws os k rs y f from fun x hx y f h => .inr ⟨by rw [hz], x, by rw [Int.toNat_natCast]; exact hx, h⟩)
    have HL1 := hide (HLE.out k (by omega) hfit)
    have hne : (bd1 != 0) = false := by simpa using hb
    have HK64 := hide (show k ≤ 64 by omega)
    clear hz h0 h64 hfew hfit hb HLE
    go_wp2_with fail
    refine (HL1.out _ HE3.out).mono ?_
    rintro e w4 ⟨x, hx, A9, c9, rfl, hN, hE4⟩
    have HLST := hide hx
    have hxl := hx.len
    have HN := hide hN
    have HB4 := hide (HB3.out.ext hE4)
    have HE4 := hide (HE3.out.trans' hE4)
    have HXL := hide hxl
    clear hx hN hE4 hxl v0 v1
    go_wp2_with fail
    go_loopw [26] (fun i wr => ∃ j : Nat, j ≤ m ∧ i = .int .i64 j ∧ Ext w wr ∧ Ext w4 wr ∧ Blk wr w.heap.size 31 #[.int .i64 0, .int .i64 0] ∧ Hid (∀ q, q < j → hBad ws os x rs q = none)) (fun i _ => m - (intOf i).toNat)
    case atStart => exact ⟨0, Nat.zero_le _, rfl, HE4.out, Ext.rfl' _, HB4.out, hide fun q hq => absurd hq (by omega)⟩
    case round =>
      obtain ⟨j, hj, rfl, hE, hE', hB, HA⟩ := hrel
      by_cases hjm : j < m
      · have hjl : j < rs.length := by rw [← HM.out]; exact hjm
        obtain ⟨b, o, rfl, hbs, hcell⟩ := HRS.out.cell (by omega)
        obtain ⟨p0, p1, p2⟩ := hcell j hjl
        have q0 := (hE.cell (p := ⟨b, o + j * 3, none⟩) hbs).trans p0
        have q1 := (hE.cell (p := ⟨b, o + j * 3 + 1, none⟩) hbs).trans p1
        have q2 := (hE.cell (p := ⟨b, o + j * 3 + 2, none⟩) hbs).trans p2
        have hbad : hBad ws os x rs j = if holdsR ws os (x.map fun (v : Nat) => (v : Int)) (rl rs j) = true then none else some (18, (j : Int)) := rfl
        obtain ⟨r, hr⟩ : ∃ r, r = rl rs j := ⟨_, rfl⟩
        rw [← hr] at q0 q1 q2 hbad
        obtain ⟨r0, r1, r2⟩ := r
        obtain ⟨w5, hw5⟩ : ∃ w5, w5 = wr.alloc (.cells #[.int .i64 r0, .int .i64 r1, .int .i64 r2] 106) := ⟨_, rfl⟩
        obtain ⟨g5, hg5⟩ : ∃ g, g = wr.heap.size := ⟨_, rfl⟩
        have hV : Blk w5 g5 106 #[.int .i64 r0, .int .i64 r1, .int .i64 r2] := by rw [hw5, hg5]; exact Blk.new _ _ _
        have hEx : Ext wr w5 := by rw [hw5]; exact (Ext.rfl' wr).alloc (Nat.le_refl _) _
        have HE5 := hide (hE.trans' hEx)
        have HE5' := hide (hE'.trans' hEx)
        have HB5 := hide (hB.ext hEx)
        have HW5 := hide hw5
        have HG5 := hide hg5
        have v0 := hV.cell 0
        have v1 := hV.cell 1
        have v2 := hV.cell 2
        simp only [List.getElem?_toArray, List.getElem?_cons_zero, List.getElem?_cons_succ] at v0 v1 v2
        have hh := HHO.out x A9 c9 (by rw [HXL.out]; exact HK64.out) r0 r1 r2 w5 HE5.out (HN.out.ext HE5'.out)
        rw [List.length_map] at hh
        obtain ⟨R, hR⟩ : ∃ R, R = holdsR ws os (x.map fun (v : Nat) => (v : Int)) (r0, r1, r2) := ⟨_, rfl⟩
        have hR2 := hR
        unfold holdsR at hR2
        rw [List.length_map] at hR2
        rw [← hR2] at hh
        rw [← hR] at hbad
        have HBAD := hide hbad
        have HHH := hide hh
        clear hcell p0 p1 p2 hr hbad hw5 hg5 hE hE' hB hV hEx hh hR hR2
        go_upto_region 8 with fail
        rw [← HW5.out, ← HG5.out]
        go_wp2_with fail
        refine HHH.out.mono ?_
        rintro e w6 ⟨rfl, hE6⟩
        have HE6 := hide (HE5.out.trans' hE6)
        have HE6' := hide (HE5'.out.trans' hE6)
        have HB6 := hide (HB5.out.ext hE6)
        have c0 := HB6.out.cell 0
        have c1 := HB6.out.cell 1
        have e0 := HB6.out.free 0
        have e1 := HB6.out.free 1
        simp only [List.getElem?_toArray, List.getElem?_cons_zero, List.getElem?_cons_succ] at c0 c1
        clear hE6 v0 v1 v2 q0 q1 q2
        cases R with
        | false =>
          have HX := hide (HANS.out x HLST.out [] _ (.inl ⟨firstOf_hit hjl HA.out HBAD.out, rfl⟩))
          go_wp2_with fail
          exact val_flt_ret (f := (18, (j : Int))) (g := w.heap.size) (v := .slice none 0 0) ((HB6.out.set_ 0 _).set_ 1 _) rfl rfl rfl rfl (SolPost.bad HX.out (ext_two HE6.out _ _))
        | true =>
          have HA2 := hide (below_step HA.out (show hBad ws os x rs j = none from HBAD.out))
          clear HA
          go_wp2_with fail
          go_roundw
          case rel => exact ⟨j + 1, by omega, by go_num, HE6.out, HE6'.out, HB6.out, HA2⟩
          case measure => simp [intOf]; omega
      · obtain rfl : j = m := by omega
        have HX := hide (HANS.out x HLST.out x (0, 0) (.inr ⟨firstOf_miss.2 (by rw [← HM.out]; exact HA.out), rfl, rfl⟩))
        have c0 := hB.cell 0
        have c1 := hB.cell 1
        have e0 := hB.free 0
        have e1 := hB.free 1
        simp only [List.getElem?_toArray, List.getElem?_cons_zero, List.getElem?_cons_succ] at c0 c1
        have HEr := hide hE
        have HEr' := hide hE'
        have HBr := hide hB
        clear hE hE' hB
        go_wp2_with fail
        exact val_flt_ret (f := (0, 0)) (g := w.heap.size) (v := .slice A9 x.length c9) ((HBr.out.set_ 0 _).set_ 1 _) rfl rfl rfl rfl ⟨x, (0, 0), A9, c9, rfl, (by rw [setCell_same _ HBr.out rfl, setCell_same _ HBr.out rfl]; exact HN.out.ext HEr'.out), ext_two HEr.out _ _, HX.out⟩
  · have hne : (bd1 != 0) = true := by simpa using hb
    have b0 := HB3.out.cell 0
    have b1 := HB3.out.cell 1
    have f0 := HB3.out.free 0
    have f1 := HB3.out.free 1
    simp only [List.getElem?_toArray, List.getElem?_cons_zero, List.getElem?_cons_succ] at b0 b1
    have HX := hide (show SolAns ws os np rs [] (bd1, bd2) from .inl ⟨by rw [← HBD.out]; exact hb, HBD.out, rfl⟩)
    clear hb
    go_upto_region 3 with fail
    go_region
    all_goals
      go_wp2_with fail
      exact val_flt_ret (f := (bd1, bd2)) (g := w.heap.size) (v := .slice none 0 0) ((HB3.out.set_ 0 _).set_ 1 _) rfl rfl rfl rfl (SolPost.bad HX.out (ext_two HE3.out _ _).drew')
end Go.Proofs.YtpjlhpaenmfieaaGreat
