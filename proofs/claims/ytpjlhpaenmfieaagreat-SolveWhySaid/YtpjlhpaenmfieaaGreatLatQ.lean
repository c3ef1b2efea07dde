/- lattice: Join, Meet, Bottom. -/
import Derived.Test.YtpjlhpaenmfieaaGreatLatP
namespace Go.Proofs.YtpjlhpaenmfieaaGreat
open Go.RowKit

/-- The join of any two numbers. -/
def joinI (n : Nat) (L : Nat → Nat → Bool) (a b : Int) : Int := if hasI n a && hasI n b then LatM.joinL n L a.toNat b.toNat else -1
theorem joinI_nat {n : Nat} {L : Nat → Nat → Bool} {a b : Nat} (ha : a < n) (hb : b < n) : joinI n L a b = LatM.joinL n L a b := by
  unfold joinI
  rw [hasI_nat ha, hasI_nat hb, Bool.and_self, if_pos rfl, Int.toNat_natCast, Int.toNat_natCast]
theorem joinI_out {n : Nat} {L : Nat → Nat → Bool} {a b : Int} (h : hasI n a = false ∨ hasI n b = false) : joinI n L a b = -1 := by
  unfold joinI
  rw [if_neg]
  rcases h with h | h <;> rw [h] <;> simp
/-- The order, turned. -/
def turnL (L : Nat → Nat → Bool) : Nat → Nat → Bool := fun a b => L b a

set_option maxRecDepth 100000 in
theorem latJoin_any (g : Nat) (ws : List Wd) (os : List (Wd × Wd)) (w : World) (h : LatAt w g ws os) (h32 : ws.length ≤ 32) (a b : Int) : Calls Tryz.prog 58 #[.pointer (some ⟨g, 0, none⟩), .int .i64 a, .int .i64 b] w (fun e w' => e = .returned (.int .i64 (joinI ws.length (leqL ws os) a b)) ∧ w = w') := by
  have HA := hide (latHas_any g ws os w h a)
  have HB := hide (latHas_any g ws os w h b)
  obtain ⟨n, A, c, gt, gr, hn, _, _, _, _, _, _, hg, hJ⟩ := h.view
  rw [← hn] at HA HB h32 ⊢
  clear h hn
  rcases hasI_cases n a with ⟨i, rfl, hi⟩ | ha
  · rw [hasI_nat hi] at HA
    rcases hasI_cases n b with ⟨j, rfl, hj⟩ | hb
    · rw [hasI_nat hj] at HB
      rw [joinI_nat hi hj]
      have q1 := (hJ i j h32 hi hj).1
      have i0 : (0 : Int) ≤ (i : Int) := by omega
      have i1 : (i : Int) < 32 := by omega
      have i2 : (0 : Int) ≤ (j : Int) := by omega
      have i3 : (j : Int) < 32 := by omega
      obtain ⟨r, hr⟩ : ∃ r, r = LatM.joinL n (leqL ws os) i j := ⟨_, rfl⟩
      rw [show LatM.joinL n (leqL ws os) i j = r from hr.symm] at q1
      rw [← hr]
      clear hJ hr
      go_enter Tryz.func58, Tryz.ntmps58
      go_wp2_with fail
      refine HA.out.mono ?_
      rintro e w' ⟨rfl, rfl⟩
      go_wp2_with fail
      refine HB.out.mono ?_
      rintro e w' ⟨rfl, rfl⟩
      go_wp2_with fail
      go_ret
      exact ⟨rfl, rfl⟩
    · rw [hasI_out hb] at HB
      rw [joinI_out (.inr (hasI_out hb))]
      clear hJ hb
      go_enter Tryz.func58, Tryz.ntmps58
      go_wp2_with fail
      refine HA.out.mono ?_
      rintro e w' ⟨rfl, rfl⟩
      go_wp2_with fail
      refine HB.out.mono ?_
      rintro e w' ⟨rfl, rfl⟩
      go_wp2_with fail
      go_ret
      exact ⟨rfl, rfl⟩
  · rw [hasI_out ha] at HA
    rw [joinI_out (.inl (hasI_out ha))]
    clear hJ ha
    go_enter Tryz.func58, Tryz.ntmps58
    go_wp2_with fail
    refine HA.out.mono ?_
    rintro e w' ⟨rfl, rfl⟩
    go_wp2_with fail
    go_ret
    exact ⟨rfl, rfl⟩
theorem latJoin_nil (w : World) (a b : Int) : Calls Tryz.prog 58 #[.pointer none, .int .i64 a, .int .i64 b] w (fun e w' => e = .returned (.int .i64 (-1)) ∧ w = w') := by
  go_enter Tryz.func58, Tryz.ntmps58
  go_wp2_with fail
  refine (latHas_nil w a).mono ?_
  rintro e w' ⟨rfl, rfl⟩
  go_wp2_with fail
  go_ret
  exact ⟨rfl, rfl⟩
set_option maxRecDepth 100000 in
theorem latMeet_any (g : Nat) (ws : List Wd) (os : List (Wd × Wd)) (w : World) (h : LatAt w g ws os) (h32 : ws.length ≤ 32) (a b : Int) : Calls Tryz.prog 93 #[.pointer (some ⟨g, 0, none⟩), .int .i64 a, .int .i64 b] w (fun e w' => e = .returned (.int .i64 (joinI ws.length (turnL (leqL ws os)) a b)) ∧ w = w') := by
  have HA := hide (latHas_any g ws os w h a)
  have HB := hide (latHas_any g ws os w h b)
  obtain ⟨n, A, c, gt, gr, hn, _, _, _, _, _, _, hg, hJ⟩ := h.view
  rw [← hn] at HA HB h32 ⊢
  clear h hn
  rcases hasI_cases n a with ⟨i, rfl, hi⟩ | ha
  · rw [hasI_nat hi] at HA
    rcases hasI_cases n b with ⟨j, rfl, hj⟩ | hb
    · rw [hasI_nat hj] at HB
      rw [joinI_nat hi hj]
      have q1 := (hJ i j h32 hi hj).2
      have i0 : (0 : Int) ≤ (i : Int) := by omega
      have i1 : (i : Int) < 32 := by omega
      have i2 : (0 : Int) ≤ (j : Int) := by omega
      have i3 : (j : Int) < 32 := by omega
      obtain ⟨r, hr⟩ : ∃ r, r = LatM.joinL n (turnL (leqL ws os)) i j := ⟨_, rfl⟩
      rw [show LatM.joinL n (fun a b => leqL ws os b a) i j = r from hr.symm] at q1
      rw [← hr]
      clear hJ hr
      go_enter Tryz.func93, Tryz.ntmps93
      go_wp2_with fail
      refine HA.out.mono ?_
      rintro e w' ⟨rfl, rfl⟩
      go_wp2_with fail
      refine HB.out.mono ?_
      rintro e w' ⟨rfl, rfl⟩
      go_wp2_with fail
      go_ret
      exact ⟨rfl, rfl⟩
    · rw [hasI_out hb] at HB
      rw [joinI_out (.inr (hasI_out hb))]
      clear hJ hb
      go_enter Tryz.func93, Tryz.ntmps93
      go_wp2_with fail
      refine HA.out.mono ?_
      rintro e w' ⟨rfl, rfl⟩
      go_wp2_with fail
      refine HB.out.mono ?_
      rintro e w' ⟨rfl, rfl⟩
      go_wp2_with fail
      go_ret
      exact ⟨rfl, rfl⟩
  · rw [hasI_out ha] at HA
    rw [joinI_out (.inl (hasI_out ha))]
    clear hJ ha
    go_enter Tryz.func93, Tryz.ntmps93
    go_wp2_with fail
    refine HA.out.mono ?_
    rintro e w' ⟨rfl, rfl⟩
    go_wp2_with fail
    go_ret
    exact ⟨rfl, rfl⟩
theorem latMeet_nil (w : World) (a b : Int) : Calls Tryz.prog 93 #[.pointer none, .int .i64 a, .int .i64 b] w (fun e w' => e = .returned (.int .i64 (-1)) ∧ w = w') := by
  go_enter Tryz.func93, Tryz.ntmps93
  go_wp2_with fail
  refine (latHas_nil w a).mono ?_
  rintro e w' ⟨rfl, rfl⟩
  go_wp2_with fail
  go_ret
  exact ⟨rfl, rfl⟩
set_option maxRecDepth 100000 in
theorem latBottom_any (g : Nat) (ws : List Wd) (os : List (Wd × Wd)) (w : World) (h : LatAt w g ws os) (h32 : ws.length ≤ 32) (hL : LatM.Lat ws.length (turnL (leqL ws os))) : Calls Tryz.prog 57 #[.pointer (some ⟨g, 0, none⟩)] w (fun e w' => e = .returned (.int .i64 ((LatM.topN ws.length (turnL (leqL ws os)) : Nat) : Int)) ∧ w = w') := by
  have HLN := hide (latLen_any g ws os w h)
  have HJ := hide (fun a b => latMeet_any g ws os w h h32 a b)
  have HL := hide hL
  obtain ⟨n, hn⟩ : ∃ n, n = ws.length := ⟨_, rfl⟩
  obtain ⟨L, hLe⟩ : ∃ L, L = (turnL (leqL ws os)) := ⟨_, rfl⟩
  have hn0 := hL.some
  rw [← hn] at HLN HJ HL h32 hn0 ⊢
  rw [← hLe] at HJ HL ⊢
  clear hn h hLe hL
  have h0 : ((n : Int) == 0) = false := by rw [beq_eq_false_iff_ne]; omega
  go_enter Tryz.func57, Tryz.ntmps57
  go_wp2_with fail
  refine HLN.out.mono ?_
  rintro e w' ⟨rfl, rfl⟩
  go_wp2_with fail
  refine HLN.out.mono ?_
  rintro e w' ⟨rfl, rfl⟩
  go_wp2_with fail
  go_loopw [10, 3] (fun i o wr => ∃ k t : Nat, k ≤ n ∧ i = .int .i64 (k : Int) ∧ o = .int .i64 (t : Int) ∧ w = wr ∧ Hid (t = LatM.topTo n L k)) (fun i _ _ => n - (intOf i).toNat)
  case atStart => exact ⟨0, 0, Nat.zero_le _, rfl, rfl, rfl, rfl⟩
  case round =>
    obtain ⟨k, t, hk, rfl, rfl, rfl, HT⟩ := hrel
    by_cases hlt : k < n
    · have hj := HJ.out (t : Int) (k : Int)
      have htn : t < n := by rw [HT.out]; exact (LatM.topTo_facts HL.out k (by omega)).1
      obtain ⟨e1, e2⟩ := LatM.jn_eq HL.out htn hlt
      rw [joinI_nat htn hlt, e1] at hj
      have HJJ := hide hj
      have HT2 := hide (show LatM.jn n L t k = LatM.topTo n L (k + 1) by rw [HT.out]; rfl)
      obtain ⟨u, hu⟩ : ∃ u, u = LatM.jn n L t k := ⟨_, rfl⟩
      rw [← hu] at HJJ HT2
      clear hj e1 e2 hu
      go_wp2_with fail
      refine HJJ.out.mono ?_
      rintro e w' ⟨rfl, rfl⟩
      go_wp2_with fail
      go_roundw
      case rel => exact ⟨k + 1, u, by omega, by go_num, rfl, by trivial, HT2⟩
      case measure => simp [intOf]; omega
    · obtain rfl : k = n := by omega
      go_wp2_with fail
      go_ret
      exact ⟨ret_int (by rw [HT.out]; rfl), rfl⟩
theorem latBottom_nil (w : World) : Calls Tryz.prog 57 #[.pointer none] w (fun e w' => e = .returned (.int .i64 (-1)) ∧ w = w') := by
  go_enter Tryz.func57, Tryz.ntmps57
  go_wp2_with fail
  refine (latLen_nil w).mono ?_
  rintro e w' ⟨rfl, rfl⟩
  go_wp2_with fail
  go_ret
  exact ⟨rfl, rfl⟩

/-- append of one number that has just been laid. -/
theorem wpList_append_Nat (w : World) {ops : Array Oper} {rest : List Oper} {o : Oper} {a : Act} {Q : Exit → Act → World → Prop} (hgd : o.guard = none) (s x : Operand)
    (ho : o.op = .call { callee := .builtin .append, args := #[s, x], argTypes := #[34, 34] })
    (base : Nat) (v : Value) (n : Nat) (l : List Nat) (hs : a.eval s = v) (g : Nat) (u : Nat) (c : Nat) (hx : a.eval x = .slice (some ⟨g, 0, none⟩) 1 c)
    (hown : w.ownsRow base 3 1 v n (natCells l)) (hr : Reads w (g + 1) 1 (some ⟨g, 0, none⟩) 1 [.int .i64 (u : Int)]) (hn : n ≤ 1073741823) (hbase : base ≤ w.heap.size)
    (h : ∀ A' c' w', w'.ownsRow base 3 1 (.slice A' (n + 1) c') (n + 1) (natCells (l ++ [u])) → w.grownBy w' v.ownBlock → (Value.ownBlock (.slice A' (n + 1) c') = v.ownBlock ∨ Value.ownBlock (.slice A' (n + 1) c') = some w.heap.size) → wpList Tryz.prog ops Q rest (a.put o.dst (.slice A' (n + 1) c')) w') : wpList Tryz.prog ops Q (o :: rest) a w := by
  obtain ⟨i0, hi, hz, hs2, hb⟩ := info_int
  have e : natCells (l ++ [u]) = natCells l ++ [.int .i64 (u : Int)] := by simp [natCells]
  rw [e] at h
  exact wpList_append_1 w hgd s x 34 ho base 3 i0 _ 8 Tryz.underlying34 hi hz hs2 hb rfl v n (natCells l) hs g (.int .i64 (u : Int)) c hx rfl hn (by decide) hown hr hbase h

/-- The levels that are at most one. -/
def seesTo (ws : List Wd) (os : List (Wd × Wd)) (a : Int) (k : Nat) : List Nat := (List.range k).filter fun b => leqI ws os (b : Int) a
theorem seesTo_yes {ws : List Wd} {os : List (Wd × Wd)} {a : Int} {k : Nat} (h : leqI ws os (k : Int) a = true) : seesTo ws os a (k + 1) = seesTo ws os a k ++ [k] := by
  unfold seesTo
  rw [List.range_succ, List.filter_append]
  simp [h]
theorem seesTo_no {ws : List Wd} {os : List (Wd × Wd)} {a : Int} {k : Nat} (h : leqI ws os (k : Int) a = false) : seesTo ws os a (k + 1) = seesTo ws os a k := by
  unfold seesTo
  rw [List.range_succ, List.filter_append]
  simp [h]
theorem seesTo_le (ws : List Wd) (os : List (Wd × Wd)) (a : Int) (k : Nat) : (seesTo ws os a k).length ≤ k := by
  unfold seesTo
  have := List.length_filter_le (fun b : Nat => leqI ws os (b : Int) a) (List.range k)
  simpa using this
def SeesPost (l : List Nat) (w : World) (e : Ending) (w' : World) : Prop := ∃ A c, e = .returned (.slice A l.length c) ∧ NatAt w' w'.heap.size A l ∧ Ext w w'
end Go.Proofs.YtpjlhpaenmfieaaGreat
