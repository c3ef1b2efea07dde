/- solve, plain: the places that lead to one, in just so many flows. -/
import Derived.Test.YtpjlhpaenmfieaaGreatSolAll
import Derived.Test.YtpjlhpaenmfieaaGreatLabAll
import Derived.Test.YtpjlhpaenmfieaaGreatLatVD
namespace Go.Proofs.YtpjlhpaenmfieaaGreat
open Go.RowKit

def hasV (l : List Int) (v : Int) : Bool := l.any fun i => v == i
theorem hasV_iff {l : List Int} {v : Int} : hasV l v = true ↔ v ∈ l := by
  unfold hasV
  simp only [List.any_eq_true, beq_iff_eq]
  constructor
  · rintro ⟨i, hi, rfl⟩; exact hi
  · intro h; exact ⟨v, h, rfl⟩
def nxStep (now acc : List Int) (r : Ru) : List Int := if (decide (r.1 = 2) && hasV now r.2.2) && !hasV acc r.2.1 then acc ++ [r.2.1] else acc
def nxtK (rs : List Ru) (now : List Int) : Nat → List Int
  | 0 => []
  | k + 1 => nxStep now (nxtK rs now k) (rl rs k)
theorem nxtK_le (rs : List Ru) (now : List Int) (k : Nat) : (nxtK rs now k).length ≤ k := by
  induction k with
  | zero => exact Nat.le_refl _
  | succ k ih =>
    unfold nxtK nxStep
    split
    · rw [List.length_append, List.length_singleton]; omega
    · omega
theorem nxtK_mem {rs : List Ru} {now : List Int} {k : Nat} {a : Int} : a ∈ nxtK rs now k ↔ ∃ i, i < k ∧ (rl rs i).1 = 2 ∧ (rl rs i).2.2 ∈ now ∧ (rl rs i).2.1 = a := by
  induction k with
  | zero => simp [nxtK]
  | succ k ih =>
    have e : a ∈ nxtK rs now (k + 1) ↔ a ∈ nxtK rs now k ∨ ((rl rs k).1 = 2 ∧ (rl rs k).2.2 ∈ now ∧ (rl rs k).2.1 = a) := by
      show a ∈ nxStep now (nxtK rs now k) (rl rs k) ↔ _
      unfold nxStep
      by_cases h1 : (rl rs k).1 = 2 <;> by_cases h2 : (rl rs k).2.2 ∈ now
      · rw [decide_eq_true h1, hasV_iff.2 h2]
        by_cases h3 : (rl rs k).2.1 ∈ nxtK rs now k
        · rw [hasV_iff.2 h3]
          simp only [Bool.and_self, Bool.not_true, Bool.and_false, Bool.false_eq_true, if_false]
          constructor
          · exact .inl
          · rintro (h | ⟨_, _, rfl⟩)
            · exact h
            · exact h3
        · rw [show hasV (nxtK rs now k) (rl rs k).2.1 = false by rw [← Bool.not_eq_true, hasV_iff]; exact h3]
          simp only [Bool.and_self, Bool.not_false, if_true, List.mem_append, List.mem_singleton, h1, h2, true_and]
          exact ⟨fun h => h.imp id Eq.symm, fun h => h.imp id Eq.symm⟩
      · rw [show hasV now (rl rs k).2.2 = false by rw [← Bool.not_eq_true, hasV_iff]; exact h2]
        simp [h2]
      · simp [h1]
      · simp [h1]
    rw [e, ih]
    constructor
    · rintro (⟨i, hi, h⟩ | h)
      · exact ⟨i, by omega, h⟩
      · exact ⟨k, by omega, h⟩
    · rintro ⟨i, hi, h⟩
      by_cases hik : i = k
      · subst hik; exact .inr h
      · exact .inl ⟨i, by omega, h⟩
def nowAt (rs : List Ru) (p : Int) : Nat → List Int
  | 0 => [p]
  | d + 1 => nxtK rs (nowAt rs p d) rs.length
theorem nowAt_le (rs : List Ru) (p : Int) (d : Nat) : (nowAt rs p d).length ≤ rs.length + 1 := by
  cases d with
  | zero => simp [nowAt]
  | succ d => have := nxtK_le rs (nowAt rs p d) rs.length; unfold nowAt; omega
def lowB (Q : Int → Int → Bool) (now : List Int) (lvl : Int) (r : Ru) : Bool := (decide (r.1 = 1) && hasV now r.2.2) && !Q r.2.1 lvl
def startsB (Q : Int → Int → Bool) (rs : List Ru) (p : Int) (d : Nat) (lvl : Int) : Bool := rs.any (lowB Q (nowAt rs p d) lvl)

/-- The first rule that is meant. -/
def idxR (p : Ru → Bool) (rs : List Ru) : Int := match rs.findIdx? p with | some i => (i : Int) | none => -1
theorem rl_get {rs : List Ru} {k : Nat} (hk : k < rs.length) : rl rs k = rs[k] := by
  unfold rl
  rw [List.getD_eq_getElem?_getD, List.getElem?_eq_getElem hk]
  rfl
theorem idxR_hit {p : Ru → Bool} {rs : List Ru} {k : Nat} (hk : k < rs.length) (h0 : ∀ j, j < k → p (rl rs j) = false) (h : p (rl rs k) = true) : idxR p rs = k := by
  unfold idxR
  have : rs.findIdx? p = some k := by
    rw [List.findIdx?_eq_some_iff_getElem]
    exact ⟨hk, by rw [← rl_get hk]; exact h, fun j hj => by rw [← rl_get (by omega), h0 j hj]; decide⟩
  rw [this]
theorem idxR_miss {p : Ru → Bool} {rs : List Ru} (h0 : ∀ j, j < rs.length → p (rl rs j) = false) : idxR p rs = -1 := by
  unfold idxR
  have : rs.findIdx? p = none := by
    rw [List.findIdx?_eq_none_iff]
    intro a ha
    obtain ⟨i, hi, rfl⟩ := List.getElem_of_mem ha
    rw [← rl_get hi]
    exact h0 i hi
  rw [this]
theorem idxR_any (p : Ru → Bool) (rs : List Ru) : decide (0 ≤ idxR p rs) = rs.any p := by
  unfold idxR
  cases h : rs.findIdx? p with
  | none =>
    rw [List.findIdx?_eq_none_iff] at h
    have : rs.any p = false := by rw [List.any_eq_false]; intro a ha; simp [h a ha]
    rw [this]; rfl
  | some i =>
    rw [List.findIdx?_eq_some_iff_getElem] at h
    obtain ⟨hi, hp, _⟩ := h
    have : rs.any p = true := by rw [List.any_eq_true]; exact ⟨rs[i], List.getElem_mem hi, hp⟩
    rw [this]; simp
end Go.Proofs.YtpjlhpaenmfieaaGreat
/- solve: the function in starts; slices.ContainsFunc over rules. -/
namespace Go.Proofs.YtpjlhpaenmfieaaGreat
open Go.RowKit

set_option maxRecDepth 100000 in
set_option maxHeartbeats 2000000 in
theorem solIn_start (gN gP gL : Nat) (p : Option Addr) (Q : Int → Int → Bool) (A : Option Addr) (c n : Nat) (now : List Int) (lvl : Int) (r0 r1 r2 : Int) (w : World)
    (hN : w.cell? ⟨gN, 0, none⟩ = some (.slice A n c)) (hP : w.cell? ⟨gP, 0, none⟩ = some (.pointer p)) (hL : w.cell? ⟨gL, 0, none⟩ = some (.int .i64 lvl)) (lN : gN < w.heap.size) (lP : gP < w.heap.size) (lL : gL < w.heap.size)
    (hx : IntAt w w.heap.size A now) (hn : n = now.length) (hn' : n ≤ 9223372036854775807)
    (hlq : ∀ w1, Ext w w1 → ∀ u v : Int, Calls Tryz.prog 51 #[.pointer p, .int .i64 u, .int .i64 v] w1 (fun e w' => e = .returned (.bool (Q u v)) ∧ w1 = w')) :
    Calls Tryz.prog 113 #[ruV (r0, r1, r2), .pointer (some ⟨gN, 0, none⟩), .pointer (some ⟨gP, 0, none⟩), .pointer (some ⟨gL, 0, none⟩)] w (fun e w' => e = .returned (.bool (lowB Q now lvl (r0, r1, r2))) ∧ Ext w w') := by
  rw [show ruV (r0, r1, r2) = .agg #[.int .i64 r0, .int .i64 r1, .int .i64 r2] from rfl]
  obtain ⟨w1, hw1⟩ : ∃ w1, w1 = w.alloc (.cells #[.int .i64 r0, .int .i64 r1, .int .i64 r2] 106) := ⟨_, rfl⟩
  obtain ⟨g, hg⟩ : ∃ g, g = w.heap.size := ⟨_, rfl⟩
  have hB : Blk w1 g 106 #[.int .i64 r0, .int .i64 r1, .int .i64 r2] := by rw [hw1, hg]; exact Blk.new _ _ _
  have hE1 : Ext w w1 := by rw [hw1]; exact (Ext.rfl' w).alloc (Nat.le_refl _) _
  have b0 := hB.cell 0
  have b1 := hB.cell 1
  have b2 := hB.cell 2
  simp only [List.getElem?_toArray, List.getElem?_cons_zero, List.getElem?_cons_succ] at b0 b1 b2
  have n1 := (hE1.cell (p := ⟨gN, 0, none⟩) lN).trans hN
  have p1 := (hE1.cell (p := ⟨gP, 0, none⟩) lP).trans hP
  have l1 := (hE1.cell (p := ⟨gL, 0, none⟩) lL).trans hL
  have HC := hide (contains_any A c n now r2 w1 (hx.ext hE1) hn hn')
  have HQ := hide (hlq w1 hE1 r1 lvl)
  obtain ⟨q, hq⟩ : ∃ q, q = Q r1 lvl := ⟨_, rfl⟩
  rw [← hq] at HQ
  rw [show (now.any fun i => r2 == i) = hasV now r2 from rfl] at HC
  obtain ⟨h, hh⟩ : ∃ h, h = hasV now r2 := ⟨_, rfl⟩
  rw [← hh] at HC
  have HE := hide hE1
  have HW := hide hw1
  have HG := hide hg
  have HR := hide (show lowB Q now lvl (r0, r1, r2) = ((decide (r0 = 1) && h) && !q) by rw [hh, hq]; rfl)
  obtain ⟨z, hz⟩ : ∃ z, z = lowB Q now lvl (r0, r1, r2) := ⟨_, rfl⟩
  rw [← hz] at HR ⊢
  clear hB hE1 hw1 hg hN hP hL hx hn hlq hq hh hz lN lP lL
  by_cases c1 : r0 = 1
  · subst c1
    have HR2 := hide (show z = (h && !q) by rw [HR.out]; rfl)
    cases h with
    | false =>
      go_enter Tryz.func113, Tryz.ntmps113
      go_upto_region 1 with fail
      rw [← HW.out, ← HG.out]
      go_wp2_with fail
      refine HC.out.mono ?_
      rintro e w' ⟨rfl, rfl⟩
      go_wp2_with fail
      go_ret
      exact ⟨ret_bool HR2.out.symm, HE.out⟩
    | true =>
      go_enter Tryz.func113, Tryz.ntmps113
      go_upto_region 1 with fail
      rw [← HW.out, ← HG.out]
      go_wp2_with fail
      refine HC.out.mono ?_
      rintro e w' ⟨rfl, rfl⟩
      go_wp2_with fail
      refine HQ.out.mono ?_
      rintro e w' ⟨rfl, rfl⟩
      go_wp2_with fail
      go_ret
      exact ⟨ret_bool HR2.out.symm, HE.out⟩
  · have e1 : (r0 == 1) = false := by simpa using c1
    have HR2 := hide (show z = false by rw [HR.out, decide_eq_false c1]; rfl)
    clear c1
    go_enter Tryz.func113, Tryz.ntmps113
    go_upto_region 1 with fail
    rw [← HW.out, ← HG.out]
    go_wp2_with fail
    go_ret
    exact ⟨ret_bool HR2.out.symm, HE.out⟩

set_option maxRecDepth 100000 in
set_option maxHeartbeats 1000000 in
theorem indexR_any (A : Option Addr) (c m : Nat) (rs : List Ru) (p1 p2 p3 : Value) (p : Ru → Bool) (w : World) (hr : RlsAt w w.heap.size A rs) (hm : m = rs.length) (hm' : m ≤ 9223372036854775807)
    (hp : ∀ w1, Ext w w1 → ∀ r0 r1 r2 : Int, Calls Tryz.prog 113 #[ruV (r0, r1, r2), p1, p2, p3] w1 (fun e w' => e = .returned (.bool (p (r0, r1, r2))) ∧ Ext w1 w')) :
    Calls Tryz.prog 135 #[.slice A m c, .func (.func 113) #[] #[p1, p2, p3]] w (fun e w' => e = .returned (.int .i64 (idxR p rs)) ∧ Ext w w') := by
  have HM := hide hm
  have HRS := hide hr
  have HP := hide hp
  clear hm hr hp
  unfold ruV at HP
  go_enter Tryz.func135, Tryz.ntmps135
  go_wp2_with fail
  go_loopw [8] (fun i wr => ∃ k : Nat, k ≤ m ∧ i = .int .i64 k ∧ Ext w wr ∧ Hid (∀ j, j < k → p (rl rs j) = false)) (fun i _ => m - (intOf i).toNat)
  case atStart => exact ⟨0, Nat.zero_le _, rfl, Ext.rfl' _, fun j hj => absurd hj (by omega)⟩
  case round =>
    obtain ⟨k, hk, rfl, hE, HA⟩ := hrel
    have HE := hide hE
    by_cases hlt : k < m
    · have hkl : k < rs.length := by rw [← HM.out]; exact hlt
      obtain ⟨b, o, rfl, hbs, hcell⟩ := HRS.out.cell (by omega)
      obtain ⟨z0, z1, z2⟩ := hcell k hkl
      have q0 := (hE.cell (p := ⟨b, o + k * 3, none⟩) hbs).trans z0
      have q1 := (hE.cell (p := ⟨b, o + k * 3 + 1, none⟩) hbs).trans z1
      have q2 := (hE.cell (p := ⟨b, o + k * 3 + 2, none⟩) hbs).trans z2
      obtain ⟨r, hr⟩ : ∃ r, r = rl rs k := ⟨_, rfl⟩
      rw [← hr] at q0 q1 q2
      obtain ⟨r0, r1, r2⟩ := r
      have hpi := HP.out _ hE r0 r1 r2
      obtain ⟨z, hz⟩ : ∃ z, z = p (r0, r1, r2) := ⟨_, rfl⟩
      rw [← hz] at hpi
      rw [hr] at hz
      have HPI := hide hpi
      have HZ := hide hz
      clear hcell z0 z1 z2 hpi hr hz hE
      cases z with
      | true =>
        have HX := hide (idxR_hit (p := p) hkl HA.out HZ.out.symm)
        go_wp2_with fail
        refine HPI.out.mono ?_
        rintro e w' ⟨rfl, hE'⟩
        have HE' := hide (HE.out.trans' hE')
        clear hE' q0 q1 q2
        go_wp2_with fail
        go_ret
        exact ⟨ret_int HX.out.symm, HE'.out⟩
      | false =>
        have HA2 := hide (show ∀ j, j < k + 1 → p (rl rs j) = false from fun j hjk => by
          by_cases e : j = k
          · subst e; exact HZ.out.symm
          · exact HA.out j (by omega))
        clear HA
        go_wp2_with fail
        refine HPI.out.mono ?_
        rintro e w' ⟨rfl, hE'⟩
        have HE' := hide (HE.out.trans' hE')
        clear hE' q0 q1 q2
        go_wp2_with fail
        go_roundw
        case rel => exact ⟨k + 1, by omega, by go_num, HE'.out, HA2⟩
        case measure => simp [intOf]; omega
    · obtain rfl : k = m := by omega
      have HX := hide (idxR_miss (p := p) fun j hj => HA.out j (by rw [HM.out]; exact hj))
      clear hE
      go_wp2_with fail
      go_ret
      exact ⟨ret_int HX.out.symm, HE.out⟩
theorem containsR_any (A : Option Addr) (c m : Nat) (rs : List Ru) (p1 p2 p3 : Value) (p : Ru → Bool) (w : World) (hr : RlsAt w w.heap.size A rs) (hm : m = rs.length) (hm' : m ≤ 9223372036854775807)
    (hp : ∀ w1, Ext w w1 → ∀ r0 r1 r2 : Int, Calls Tryz.prog 113 #[ruV (r0, r1, r2), p1, p2, p3] w1 (fun e w' => e = .returned (.bool (p (r0, r1, r2))) ∧ Ext w1 w')) :
    Calls Tryz.prog 112 #[.slice A m c, .func (.func 113) #[] #[p1, p2, p3]] w (fun e w' => e = .returned (.bool (rs.any p)) ∧ Ext w w') := by
  have HI := hide (indexR_any A c m rs p1 p2 p3 p w hr hm hm' hp)
  rw [← idxR_any]
  obtain ⟨r, hr2⟩ : ∃ r, r = idxR p rs := ⟨_, rfl⟩
  rw [← hr2] at HI ⊢
  clear hr2 hr hm hm' hp
  go_enter Tryz.func112, Tryz.ntmps112
  go_wp2_with fail
  refine HI.out.mono ?_
  rintro e w' ⟨rfl, hE⟩
  have HE := hide hE
  clear hE
  go_wp2_with fail
  go_ret
  exact ⟨rfl, HE.out⟩

theorem intCells_append (x : List Int) (v : Int) : intCells (x ++ [v]) = intCells x ++ [.int .i64 v] := by simp [intCells]
theorem wpList_append_Int (w : World) {ops : Array Oper} {rest : List Oper} {o : Oper} {a : Act} {Q : Exit → Act → World → Prop} (hgd : o.guard = none) (s x : Operand)
    (ho : o.op = .call { callee := .builtin .append, args := #[s, x], argTypes := #[34, 34] })
    (base : Nat) (v : Value) (n : Nat) (l : List Int) (hs : a.eval s = v) (g : Nat) (u : Int) (c : Nat) (hx : a.eval x = .slice (some ⟨g, 0, none⟩) 1 c)
    (hown : w.ownsRow base 3 1 v n (intCells l)) (hr : Reads w (g + 1) 1 (some ⟨g, 0, none⟩) 1 [.int .i64 u]) (hn : n ≤ 1073741823) (hbase : base ≤ w.heap.size)
    (h : ∀ A' c' w', w'.ownsRow base 3 1 (.slice A' (n + 1) c') (n + 1) (intCells (l ++ [u])) → w.grownBy w' v.ownBlock → (Value.ownBlock (.slice A' (n + 1) c') = v.ownBlock ∨ Value.ownBlock (.slice A' (n + 1) c') = some w.heap.size) → wpList Tryz.prog ops Q rest (a.put o.dst (.slice A' (n + 1) c')) w') : wpList Tryz.prog ops Q (o :: rest) a w := by
  obtain ⟨i0, hi, hz, hs2, hb⟩ := info_int
  rw [intCells_append] at h
  exact wpList_append_1 w hgd s x 34 ho base 3 i0 _ 8 Tryz.underlying34 hi hz hs2 hb rfl v n (intCells l) hs g (.int .i64 u) c hx rfl hn (by decide) hown hr hbase h
end Go.Proofs.YtpjlhpaenmfieaaGreat
/- solve: starts, walked. -/
namespace Go.Proofs.YtpjlhpaenmfieaaGreat
open Go.RowKit

theorem own_ints {w : World} {base n c : Nat} {A : Option Addr} {x : List Int} (h : w.ownsRow base 3 1 (.slice A n c) n (intCells x)) (hn : n = x.length) : IntAt w w.heap.size A x := by
  have := Reads.of_own h
  subst hn
  exact this
set_option maxRecDepth 100000 in
set_option maxHeartbeats 8000000 in
theorem starts_any (p : Option Addr) (Q : Int → Int → Bool) (A : Option Addr) (c m : Nat) (rs : List Ru) (pl lvl : Int) (d : Nat) (w : World) (hr : RlsAt w w.heap.size A rs) (hm : m = rs.length) (hm' : m ≤ 1000000) (hd : d ≤ 1000000)
    (hlq : ∀ w1, Ext w w1 → ∀ u v : Int, Calls Tryz.prog 51 #[.pointer p, .int .i64 u, .int .i64 v] w1 (fun e w' => e = .returned (.bool (Q u v)) ∧ w1 = w')) :
    Calls Tryz.prog 100 #[.slice A m c, .int .i64 pl, .int .i64 d, .int .i64 lvl, .pointer p] w (fun e w' => e = .returned (.bool (startsB Q rs pl d lvl)) ∧ Ext w w') := by
  have HM := hide hm
  have HRS := hide hr
  have HLQ := hide hlq
  clear hm hr hlq
  go_enter Tryz.func100, Tryz.ntmps100
  go_wp2_with fail
  obtain ⟨w0, hw0⟩ : ∃ w0, w0 = (((w.alloc (Obj.cells #[.int .i64 lvl] 3)).alloc (Obj.cells #[.pointer p] 28)).alloc (Obj.cells #[.int .i64 pl] 3)).alloc (Obj.cells #[.slice (some ⟨w.heap.size + 1 + 1, 0, none⟩) 1 1] 34) := ⟨_, rfl⟩
  rw [← hw0]
  have hE0 : Ext w w0 := by
    rw [hw0]; exact ((((Ext.rfl' w).alloc (Nat.le_refl _) _).alloc (by simp only [World.size_alloc]; omega) _).alloc (by simp only [World.size_alloc]; omega) _).alloc (by simp only [World.size_alloc]; omega) _
  have B1 : Blk w0 w.heap.size 3 #[.int .i64 lvl] := by
    rw [hw0]; exact (((Blk.new _ _ _).alloc _).alloc _).alloc _
  have B2 : Blk w0 (w.heap.size + 1) 28 #[.pointer p] := by
    rw [hw0]; have := (((Blk.new (w.alloc (Obj.cells #[.int .i64 lvl] 3)) 28 #[.pointer p]).alloc (Obj.cells #[.int .i64 pl] 3)).alloc (Obj.cells #[.slice (some ⟨w.heap.size + 1 + 1, 0, none⟩) 1 1] 34)); simpa only [World.size_alloc] using this
  have B3 : Blk w0 (w.heap.size + 1 + 1) 3 #[.int .i64 pl] := by
    rw [hw0]; have := ((Blk.new ((w.alloc (Obj.cells #[.int .i64 lvl] 3)).alloc (Obj.cells #[.pointer p] 28)) 3 #[.int .i64 pl]).alloc (Obj.cells #[.slice (some ⟨w.heap.size + 1 + 1, 0, none⟩) 1 1] 34)); simpa only [World.size_alloc] using this
  have B4 : Blk w0 (w.heap.size + 1 + 1 + 1) 34 #[.slice (some ⟨w.heap.size + 1 + 1, 0, none⟩) 1 1] := by
    rw [hw0]; have := (Blk.new (((w.alloc (Obj.cells #[.int .i64 lvl] 3)).alloc (Obj.cells #[.pointer p] 28)).alloc (Obj.cells #[.int .i64 pl] 3)) 34 #[.slice (some ⟨w.heap.size + 1 + 1, 0, none⟩) 1 1]); simpa only [World.size_alloc] using this
  have hN0 : IntAt w0 w0.heap.size (some ⟨w.heap.size + 1 + 1, 0, none⟩) [pl] := blk_reads B3 rfl (by rw [intCells_length, Nat.mul_one])
  obtain ⟨gL, hgL⟩ : ∃ g, g = w.heap.size := ⟨_, rfl⟩
  obtain ⟨gP, hgP⟩ : ∃ g, g = w.heap.size + 1 := ⟨_, rfl⟩
  obtain ⟨gS, hgS⟩ : ∃ g, g = w.heap.size + 1 + 1 := ⟨_, rfl⟩
  obtain ⟨gN, hgN⟩ : ∃ g, g = w.heap.size + 1 + 1 + 1 := ⟨_, rfl⟩
  rw [← hgN] at B4 ⊢
  rw [← hgS] at B3 B4 hN0 ⊢
  rw [← hgP] at B2 ⊢
  rw [← hgL] at B1 ⊢
  have HGN := hide (show w.heap.size ≤ gN by omega)
  have HE0 := hide hE0
  have HB1 := hide B1
  have HB2 := hide B2
  have HB4 := hide B4
  have HN0 := hide hN0
  have HD1 := hide (show gL ≠ gN ∧ gP ≠ gN ∧ gS ≠ gN by omega)
  have l3 := B3.lt
  have HL3 := hide l3
  clear hE0 B1 B2 B3 B4 hN0 hgL hgP hgS hgN hw0 l3
  go_loopw [18] (fun i wr => ∃ (j : Nat) (An : Option Addr) (cn n : Nat) (now : List Int), j ≤ d ∧ i = .int .i64 j ∧ Ext w wr ∧ Blk wr gL 3 #[.int .i64 lvl] ∧ Blk wr gP 28 #[.pointer p] ∧ Blk wr gN 34 #[.slice An n cn] ∧ IntAt wr wr.heap.size An now ∧ n = now.length ∧ Hid (now = nowAt rs pl j)) (fun i _ => d - (intOf i).toNat)
  case atStart => exact ⟨0, some ⟨gS, 0, none⟩, 1, 1, [pl], Nat.zero_le _, rfl, HE0.out, HB1.out, HB2.out, HB4.out, HN0.out, rfl, rfl⟩
  case round =>
    rename World => wo
    obtain ⟨j, An, cn, n, now, hj, rfl, hE, hBL, hBP, hBN, hN, hn, HNOW⟩ := hrel
    have HE := hide hE
    have HBL := hide hBL
    have HBP := hide hBP
    have HBN := hide hBN
    have HN := hide hN
    have HNL := hide hn
    have hn2 : n ≤ m + 1 := by rw [hn, HM.out, HNOW.out]; exact nowAt_le rs pl j
    have cN := hBN.cell 0
    simp only [List.getElem?_toArray, List.getElem?_cons_zero] at cN
    clear hE hBL hBP hBN hN hn
    by_cases hjd : j < d
    · go_wp2_with fail
      go_loopw [22, 12] (fun i s wx => ∃ (k q : Nat) (Ao : Option Addr) (co : Nat) (acc : List Int), k ≤ m ∧ i = .int .i64 k ∧ s = .slice Ao q co ∧ Ext wo wx ∧ wx.ownsRow wo.heap.size 3 1 (.slice Ao q co) q (intCells acc) ∧ q = acc.length ∧ q ≤ k ∧ Hid (acc = nxtK rs now k)) (fun i _ _ => m - (intOf i).toNat)
      case atStart => exact ⟨0, 0, none, 0, [], Nat.zero_le _, rfl, rfl, Ext.rfl' _, World.ownsRow_nil _ _ _ _, rfl, Nat.le_refl _, rfl⟩
      case round =>
        obtain ⟨k, q, Ao, co, acc, hk, rfl, rfl, hEx, hO, hq, hqk, HACC⟩ := hrel
        have HEx := hide hEx
        have HO := hide hO
        have HQL := hide hq
        clear hq
        by_cases hkm : k < m
        · have hkl : k < rs.length := by rw [← HM.out]; exact hkm
          obtain ⟨b, o, rfl, hbs, hcell⟩ := HRS.out.cell (by omega)
          obtain ⟨z0, z1, z2⟩ := hcell k hkl
          have hEw := HE.out.trans' hEx
          have q0 := (hEw.cell (p := ⟨b, o + k * 3, none⟩) hbs).trans z0
          have q1 := (hEw.cell (p := ⟨b, o + k * 3 + 1, none⟩) hbs).trans z1
          have q2 := (hEw.cell (p := ⟨b, o + k * 3 + 2, none⟩) hbs).trans z2
          have hnx : nxtK rs now (k + 1) = nxStep now (nxtK rs now k) (rl rs k) := rfl
          obtain ⟨r, hr⟩ : ∃ r, r = rl rs k := ⟨_, rfl⟩
          rw [← hr] at q0 q1 q2 hnx
          rw [← HACC.out] at hnx
          obtain ⟨r0, r1, r2⟩ := r
          unfold nxStep at hnx
          simp only at hnx
          obtain ⟨w5, hw5⟩ : ∃ w5, w5 = wr.alloc (.cells #[.int .i64 r0, .int .i64 r1, .int .i64 r2] 106) := ⟨_, rfl⟩
          obtain ⟨g5, hg5⟩ : ∃ g, g = wr.heap.size := ⟨_, rfl⟩
          have hV : Blk w5 g5 106 #[.int .i64 r0, .int .i64 r1, .int .i64 r2] := by rw [hw5, hg5]; exact Blk.new _ _ _
          have hEx5 : Ext wr w5 := by rw [hw5]; exact (Ext.rfl' wr).alloc (Nat.le_refl _) _
          have HE5 := hide (hEx.trans' hEx5)
          have HW5 := hide hw5
          have HG5 := hide hg5
          have v0 := hV.cell 0
          have v1 := hV.cell 1
          have v2 := hV.cell 2
          simp only [List.getElem?_toArray, List.getElem?_cons_zero, List.getElem?_cons_succ] at v0 v1 v2
          have n5 := (HE5.out.cell (p := ⟨gN, 0, none⟩) HBN.out.lt).trans cN
          have HO5 := hide (own_ext hO hEx5)
          have HC1 := hide (contains_any An cn n now r2 w5 (HN.out.ext HE5.out) HNL.out (by omega))
          have HC2 := hide (contains_any Ao co q acc r1 w5 (own_ints HO5.out HQL.out) HQL.out (by omega))
          rw [show (now.any fun i => r2 == i) = hasV now r2 from rfl] at HC1
          rw [show (acc.any fun i => r1 == i) = hasV acc r1 from rfl] at HC2
          obtain ⟨h1, hh1⟩ : ∃ h, h = hasV now r2 := ⟨_, rfl⟩
          obtain ⟨h2, hh2⟩ : ∃ h, h = hasV acc r1 := ⟨_, rfl⟩
          rw [← hh1] at HC1 hnx
          rw [← hh2] at HC2 hnx
          have HNX := hide hnx
          clear hcell z0 z1 z2 hr hw5 hg5 hV hEx hEx5 hnx hh1 hh2 hO hEw
          by_cases c2 : r0 = 2
          · subst c2
            cases h1 with
            | false =>
              have HNX2 := hide (show acc = nxtK rs now (k + 1) from HNX.out.symm)
              go_upto_region 8 with fail
              rw [← HW5.out, ← HG5.out]
              go_wp2_with fail
              refine HC1.out.mono ?_
              rintro e w' ⟨rfl, rfl⟩
              go_wp2_with fail
              go_roundw
              case rel => exact ⟨k + 1, q, Ao, co, acc, by omega, by go_num, rfl, HE5.out, HO5.out, HQL.out, by omega, HNX2⟩
              case measure => simp [intOf]; omega
            | true =>
              cases h2 with
              | true =>
                have HNX2 := hide (show acc = nxtK rs now (k + 1) from HNX.out.symm)
                go_upto_region 8 with fail
                rw [← HW5.out, ← HG5.out]
                go_wp2_with fail
                refine HC1.out.mono ?_
                rintro e w' ⟨rfl, rfl⟩
                go_wp2_with fail
                refine HC2.out.mono ?_
                rintro e w' ⟨rfl, rfl⟩
                go_wp2_with fail
                go_roundw
                case rel => exact ⟨k + 1, q, Ao, co, acc, by omega, by go_num, rfl, HE5.out, HO5.out, HQL.out, by omega, HNX2⟩
                case measure => simp [intOf]; omega
              | false =>
                have HNX2 := hide (show acc ++ [r1] = nxtK rs now (k + 1) from HNX.out.symm)
                have hwb : wo.heap.size ≤ w5.heap.size := HE5.out.size
                go_upto_region 8 with fail
                rw [← HW5.out, ← HG5.out]
                go_wp2_with fail
                refine HC1.out.mono ?_
                rintro e w' ⟨rfl, rfl⟩
                go_wp2_with fail
                refine HC2.out.mono ?_
                rintro e w' ⟨rfl, rfl⟩
                go_wp2_with (at_builtin; refine wpList_append_Int _ rfl _ _ rfl wo.heap.size _ q acc rfl w5.heap.size r1 _ rfl (HO5.out.alloc _) (reads_new _ _ _) (by omega) (by simp; omega) ?_)
                intro A3 c3 w3 hown3 hgrow3 _
                have HE3 := hide (grown_ext' (w := wo) (wr := w5) (base := wo.heap.size) HE5.out ((Ext.rfl' w5).alloc (Nat.le_refl _) _) hgrow3 HO5.out (Nat.le_refl _))
                have HO3 := hide hown3
                clear hown3 hgrow3 v0 v1 v2 q0 q1 q2
                go_wp2_with fail
                go_roundw
                case rel => exact ⟨k + 1, q + 1, A3, c3, acc ++ [r1], by omega, by go_num, rfl, HE3.out, HO3.out, by rw [List.length_append, ← HQL.out]; rfl, by omega, HNX2⟩
                case measure => simp [intOf]; omega
          · have e1 : (r0 == 2) = false := by simpa using c2
            have HNX2 := hide (show acc = nxtK rs now (k + 1) by rw [HNX.out, decide_eq_false c2]; rfl)
            clear c2
            go_upto_region 8 with fail
            rw [← HW5.out, ← HG5.out]
            go_wp2_with fail
            go_roundw
            case rel => exact ⟨k + 1, q, Ao, co, acc, by omega, by go_num, rfl, HE5.out, HO5.out, HQL.out, by omega, HNX2⟩
            case measure => simp [intOf]; omega
        · obtain rfl : k = m := by omega
          have hBN2 := HBN.out.ext hEx
          have n2 := hBN2.cell 0
          have f2 := hBN2.free 0
          simp only [List.getElem?_toArray, List.getElem?_cons_zero] at n2
          have HBN2 := hide hBN2
          have HEE := hide (HE.out.trans' hEx)
          have hgr := HBN.out.lt
          have HGR := hide hgr
          clear hEx hO hBN2 hgr
          go_wp2_with fail
          go_roundw
          case rel => exact ⟨j + 1, Ao, co, q, acc, by omega, by go_num, HEE.out.setCell HGN.out _, (HBL.out.ext HEx.out).far HD1.out.1 _, (HBP.out.ext HEx.out).far HD1.out.2.1 _, HBN2.out.set_ 0 _, own_ints (ownsRow_setCell_below HO.out HGR.out _) HQL.out, HQL.out, by rw [HACC.out, HM.out, HNOW.out]; rfl⟩
          case measure => simp [intOf]; omega
    · obtain rfl : j = d := by omega
      have cL := HBL.out.cell 0
      have cP := HBP.out.cell 0
      simp only [List.getElem?_toArray, List.getElem?_cons_zero] at cL cP
      have HCR := hide (containsR_any A c m rs (.pointer (some ⟨gN, 0, none⟩)) (.pointer (some ⟨gP, 0, none⟩)) (.pointer (some ⟨gL, 0, none⟩)) (lowB Q now lvl) wo (HRS.out.ext HE.out) HM.out (by omega) (fun w1 h1 r0 r1 r2 => solIn_start gN gP gL p Q An cn n now lvl r0 r1 r2 w1 ((h1.cell HBN.out.lt).trans cN) ((h1.cell HBP.out.lt).trans cP) ((h1.cell HBL.out.lt).trans cL) (Nat.lt_of_lt_of_le HBN.out.lt h1.size) (Nat.lt_of_lt_of_le HBP.out.lt h1.size) (Nat.lt_of_lt_of_le HBL.out.lt h1.size) (HN.out.ext h1) HNL.out (by omega) (fun w2 h2 => HLQ.out w2 (HE.out.trans' (h1.trans' h2)))))
      have HZ := hide (show rs.any (lowB Q now lvl) = startsB Q rs pl j lvl by rw [HNOW.out]; rfl)
      obtain ⟨z, hz⟩ : ∃ z, z = rs.any (lowB Q now lvl) := ⟨_, rfl⟩
      rw [← hz] at HCR HZ
      clear cN cL cP hz
      go_wp2_with fail
      refine HCR.out.mono ?_
      rintro e w' ⟨rfl, hE'⟩
      have HE' := hide (HE.out.trans' hE')
      clear hE'
      go_wp2_with fail
      go_ret
      exact ⟨ret_bool HZ.out, HE'.out⟩
end Go.Proofs.YtpjlhpaenmfieaaGreat
/- solve: flows, walked. -/
namespace Go.Proofs.YtpjlhpaenmfieaaGreat
open Go.RowKit

def firstD (f : Nat → Bool) (n : Nat) : Nat := ((List.range n).find? f).getD n
theorem firstD_hit {f : Nat → Bool} {n k : Nat} (hk : k < n) (h0 : ∀ j, j < k → f j = false) (h : f k = true) : firstD f n = k := by
  unfold firstD
  have : (List.range n).find? f = some k := by
    rw [List.find?_range_eq_some]
    exact ⟨h, List.mem_range.2 hk, fun j hj => by rw [h0 j hj]; rfl⟩
  rw [this]; rfl
theorem firstD_miss {f : Nat → Bool} {n : Nat} (h0 : ∀ j, j < n → f j = false) : firstD f n = n := by
  unfold firstD
  have : (List.range n).find? f = none := by
    rw [List.find?_eq_none]
    intro j hj
    rw [h0 j (List.mem_range.1 hj)]; decide
  rw [this]; rfl
set_option maxRecDepth 100000 in
set_option maxHeartbeats 2000000 in
theorem flows_any (p : Option Addr) (Q : Int → Int → Bool) (A : Option Addr) (c m : Nat) (rs : List Ru) (pl lvl : Int) (w : World) (hr : RlsAt w w.heap.size A rs) (hm : m = rs.length) (hm' : m ≤ 1000000)
    (hlq : ∀ w1, Ext w w1 → ∀ u v : Int, Calls Tryz.prog 51 #[.pointer p, .int .i64 u, .int .i64 v] w1 (fun e w' => e = .returned (.bool (Q u v)) ∧ w1 = w')) :
    Calls Tryz.prog 99 #[.slice A m c, .int .i64 pl, .int .i64 lvl, .pointer p] w (fun e w' => e = .returned (.int .i64 (firstD (fun d => startsB Q rs pl d lvl) m : Nat)) ∧ Ext w w') := by
  have HST := hide (fun (d : Nat) (hd : d ≤ m) (w1 : World) (h1 : Ext w w1) => starts_any p Q A c m rs pl lvl d w1 (hr.ext h1) hm hm' (by omega) (fun w2 h2 => hlq w2 (h1.trans' h2)))
  clear hr hm hlq
  obtain ⟨f, hf⟩ : ∃ f : Nat → Bool, f = fun d => startsB Q rs pl d lvl := ⟨_, rfl⟩
  rw [← hf]
  have HST2 := hide (show ∀ (d : Nat) (hd : d ≤ m) (w1 : World) (h1 : Ext w w1), Calls Tryz.prog 100 #[.slice A m c, .int .i64 pl, .int .i64 d, .int .i64 lvl, .pointer p] w1 (fun e w' => e = .returned (.bool (f d)) ∧ Ext w1 w') by rw [hf]; exact HST.out)
  clear hf HST
  go_enter Tryz.func99, Tryz.ntmps99
  go_wp2_with fail
  go_loopw [9] (fun i wr => ∃ j : Nat, j ≤ m ∧ i = .int .i64 j ∧ Ext w wr ∧ Hid (∀ e, e < j → f e = false)) (fun i _ => m - (intOf i).toNat)
  case atStart => exact ⟨0, Nat.zero_le _, rfl, Ext.rfl' _, hide fun e he => absurd he (by omega)⟩
  case round =>
    obtain ⟨j, hj, rfl, hE, HA⟩ := hrel
    have HE := hide hE
    by_cases hjm : j < m
    · have HC := hide (HST2.out j hj wr hE)
      obtain ⟨z, hz⟩ : ∃ z, z = f j := ⟨_, rfl⟩
      rw [← hz] at HC
      have HZ := hide hz
      clear hz hE
      cases z with
      | true =>
        have HX := hide (firstD_hit hjm HA.out HZ.out.symm)
        go_wp2_with fail
        refine HC.out.mono ?_
        rintro e w' ⟨rfl, hE'⟩
        have HE' := hide (HE.out.trans' hE')
        clear hE'
        go_wp2_with fail
        go_ret
        exact ⟨ret_int (congrArg (fun (n : Nat) => (n : Int)) HX.out.symm), HE'.out⟩
      | false =>
        have HA2 := hide (show ∀ e, e < j + 1 → f e = false from fun e he => by
          by_cases h : e = j
          · subst h; exact HZ.out.symm
          · exact HA.out e (by omega))
        go_wp2_with fail
        refine HC.out.mono ?_
        rintro e w' ⟨rfl, hE'⟩
        have HE' := hide (HE.out.trans' hE')
        clear hE'
        go_wp2_with fail
        go_roundw
        case rel => exact ⟨j + 1, by omega, by go_num, HE'.out, HA2⟩
        case measure => simp [intOf]; omega
    · obtain rfl : j = m := by omega
      have HX := hide (firstD_miss HA.out)
      clear hE
      go_wp2_with fail
      go_ret
      exact ⟨ret_int (congrArg (fun (n : Nat) => (n : Int)) HX.out.symm), HE.out⟩
end Go.Proofs.YtpjlhpaenmfieaaGreat
/- solve: slices.Reverse, walked. -/
namespace Go.Proofs.YtpjlhpaenmfieaaGreat
open Go.RowKit

def revI (n i p : Nat) : Nat := if p < i ∨ n ≤ p + i then n - 1 - p else p
def RevAt (w : World) (g n : Nat) (l : List Nat) (i : Nat) : Prop := ∃ cs : Array Value, Blk w g 3 cs ∧ ∀ p, p < n → cs[p]? = some (.int .i64 (l.getD (revI n i p) 0 : Nat))
theorem RevAt.step {w : World} {g n i : Nat} {l : List Nat} (h : RevAt w g n l i) (hi : i < n - 1 - i) : RevAt ((w.setCell ⟨g, i, none⟩ (.int .i64 (l.getD (n - 1 - i) 0 : Nat))).setCell ⟨g, n - 1 - i, none⟩ (.int .i64 (l.getD i 0 : Nat))) g n l (i + 1) := by
  obtain ⟨cs, hB, hc⟩ := h
  refine ⟨_, (hB.set_ i _).set_ (n - 1 - i) _, fun p hp => ?_⟩
  have hs : ∀ p, p < n → p < cs.size := fun p hp => by
    have := hc p hp
    rcases Nat.lt_or_ge p cs.size with h | h
    · exact h
    · rw [Array.getElem?_eq_none h] at this; cases this
  rw [Array.getElem?_setIfInBounds, Array.getElem?_setIfInBounds]
  by_cases e1 : n - 1 - i = p
  · rw [if_pos e1, if_pos (by rw [Array.size_setIfInBounds]; exact hs _ (by omega))]
    unfold revI
    rw [if_pos (by omega), show n - 1 - p = i by omega]
  · rw [if_neg e1]
    by_cases e2 : i = p
    · rw [if_pos e2, if_pos (hs _ (by omega))]
      unfold revI
      rw [if_pos (by omega), e2]
    · rw [if_neg e2, hc p hp]
      unfold revI
      by_cases c : p < i ∨ n ≤ p + i
      · rw [if_pos c, if_pos (by omega)]
      · rw [if_neg c, if_neg (by omega)]
theorem RevAt.ends {w : World} {g i : Nat} {l : List Nat} (h : RevAt w g l.length l i) (hi : ¬ i < l.length - 1 - i) (hn : 0 < l.length) : NatAt w w.heap.size (some ⟨g, 0, none⟩) l.reverse := by
  obtain ⟨cs, hB, hc⟩ := h
  refine ⟨by simp [natCells], fun _ => ⟨_, rfl, hB.lt, fun j u hu => ?_⟩⟩
  have hj : j < l.length := by
    have := (List.getElem?_eq_some_iff.1 hu).1
    simpa [natCells] using this
  have e : (⟨g, 0, none⟩ : Addr).add j = ⟨g, j, none⟩ := by
    unfold Addr.add
    split
    · next h => rw [h]
    · simp
  rw [e, hB.cell j, hc j hj, ← hu]
  have hr : revI l.length i j = l.length - 1 - j := by
    unfold revI
    by_cases c : j < i ∨ l.length ≤ j + i
    · rw [if_pos c]
    · rw [if_neg c]; omega
  rw [hr]
  unfold natCells
  rw [List.getElem?_map, List.getElem?_reverse hj, List.getD_eq_getElem?_getD, List.getElem?_eq_getElem (show l.length - 1 - j < l.length by omega)]
  rfl
theorem RevAt.cell {w : World} {g n i : Nat} {l : List Nat} (h : RevAt w g n l i) (hi : i < n - 1 - i) : w.cell? ⟨g, i, none⟩ = some (.int .i64 (l.getD i 0 : Nat)) ∧ w.cell? ⟨g, n - 1 - i, none⟩ = some (.int .i64 (l.getD (n - 1 - i) 0 : Nat)) ∧ w.frozen? ⟨g, i, none⟩ = false ∧ w.frozen? ⟨g, n - 1 - i, none⟩ = false := by
  obtain ⟨cs, hB, hc⟩ := h
  refine ⟨?_, ?_, hB.free _, hB.free _⟩
  · rw [hB.cell, hc i (by omega)]; unfold revI; rw [if_neg (by omega)]
  · rw [hB.cell, hc _ (by omega)]; unfold revI; rw [if_neg (by omega)]
theorem RevAt.drew {w : World} {g n i : Nat} {l : List Nat} (h : RevAt w g n l i) : RevAt w.drew g n l i := h

set_option maxRecDepth 100000 in
set_option maxHeartbeats 4000000 in
theorem reverse_any (g c m : Nat) (l : List Nat) (W w : World) (hW : W.heap.size ≤ g) (hE : Ext W w) (h : RevAt w g m l 0) (hm : m = l.length) (hm0 : 0 < m) (hm' : m ≤ 1000000) :
    Calls Tryz.prog 101 #[.slice (some ⟨g, 0, none⟩) m c] w (fun e w' => e = .returned (.tuple #[]) ∧ NatAt w' w'.heap.size (some ⟨g, 0, none⟩) l.reverse ∧ Ext W w') := by
  have HM := hide hm
  have HR := hide h
  have HE := hide hE
  have HG := hide hW
  clear hm h hE hW
  go_enter Tryz.func101, Tryz.ntmps101
  go_wp2_with fail
  go_loopw [2, 3] (fun s t wr => ∃ i : Nat, i ≤ m ∧ s = .int .i64 i ∧ t = .int .i64 ((m : Int) - 1 - i) ∧ Ext W wr ∧ Hid (RevAt wr g m l i)) (fun i _ _ => m - (intOf i).toNat)
  case atStart => exact ⟨0, Nat.zero_le _, rfl, by simp, HE.out, HR⟩
  case round =>
    obtain ⟨i, hi, rfl, rfl, hE, HRI⟩ := hrel
    have HEr := hide hE
    clear hE
    by_cases hij : i < m - 1 - i
    · obtain ⟨c1, c2, f1, f2⟩ := HRI.out.cell hij
      have hst := HRI.out.drew.step hij
      have HST := hide hst
      have HEW := hide (HEr.out.drew'.setCell (p := ⟨g, i, none⟩) HG.out (.int .i64 (l.getD (m - 1 - i) 0 : Nat)))
      obtain ⟨j, hj⟩ : ∃ j, j = m - 1 - i := ⟨_, rfl⟩
      have ej : (m : Int) - 1 - (i : Int) = (j : Int) := by omega
      have ej2 : (m : Int) - 1 - ((i + 1 : Nat) : Int) = (j : Int) - 1 := by omega
      have HEJ2 := hide ej2
      rw [← hj] at c2 f2 HST HEW
      rw [ej]
      obtain ⟨a, ha⟩ : ∃ a, a = l.getD i 0 := ⟨_, rfl⟩
      obtain ⟨b, hb⟩ : ∃ b, b = l.getD j 0 := ⟨_, rfl⟩
      rw [← ha] at c1 HST
      rw [← hb] at c2 HST HEW
      have i0 : (0 : Int) ≤ (i : Int) := by omega
      have i1 : (i : Int) < (m : Int) := by omega
      have i2 : (0 : Int) ≤ (j : Int) := by omega
      have i3 : (j : Int) < (m : Int) := by omega
      have hne : i ≠ j := by omega
      have hlt : (i : Int) < (j : Int) := by omega
      have HEF := hide (HEW.out.setCell (p := ⟨g, j, none⟩) HG.out (.int .i64 (a : Nat)))
      clear hst ej ej2 ha hb hj hij
      go_wp2_with fail
      go_region
      all_goals
        go_wp2_with fail
        go_roundw
      case rel => exact ⟨i + 1, by omega, by go_num, by rw [HEJ2.out], HEF.out, HST⟩
      case measure => simp [intOf]; omega
    · have hlt : ¬ (i : Int) < (m : Int) - 1 - (i : Int) := by omega
      have HNT := hide (show NatAt wr wr.heap.size (some ⟨g, 0, none⟩) l.reverse from (HM.out ▸ HRI.out).ends (by rw [← HM.out]; exact hij) (by rw [← HM.out]; exact hm0))
      obtain ⟨z, hz⟩ : ∃ z, z = (m : Int) - 1 - (i : Int) := ⟨_, rfl⟩
      rw [← hz] at hlt ⊢
      clear hz hij
      go_wp2_with fail
      go_end0
      exact ⟨rfl, HNT.out, HEr.out⟩
end Go.Proofs.YtpjlhpaenmfieaaGreat
