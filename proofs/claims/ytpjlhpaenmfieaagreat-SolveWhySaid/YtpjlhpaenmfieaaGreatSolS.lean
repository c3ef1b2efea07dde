/- solve: rules the document's way (own); append of a rule. -/
import Derived.Test.YtpjlhpaenmfieaaGreatSolAll
namespace Go.Proofs.YtpjlhpaenmfieaaGreat
open Go.RowKit

theorem info_R : ∃ i, Tryz.prog.info? 110 = some i ∧ i.zero = some (.agg #[.int .i64 0, .int .i64 0, .int .i64 0]) ∧ i.size = 3 ∧ i.bytes = 24 :=
  info_parts3 (a := 3) (b := 24) (v := .agg #[.int .i64 0, .int .i64 0, .int .i64 0]) (s := 3) (by kernel_rfl)
theorem rlCells_append (l m : List Ru) : rlCells (l ++ m) = rlCells l ++ rlCells m := by simp [rlCells]
theorem rlCells_one (l : List Ru) : ∀ u ∈ rlCells l, u.oneCell' = true := by
  intro u hu
  simp only [rlCells, List.mem_flatMap] at hu
  obtain ⟨p, _, hu⟩ := hu
  simp at hu
  rcases hu with rfl | rfl | rfl <;> rfl
theorem reads_rule (w : World) (t : TypeId) (x y z : Int) (g : Nat) (hg : g = w.heap.size) : Reads (w.alloc (.cells #[.int .i64 x, .int .i64 y, .int .i64 z] t)) (g + 1) 3 (some ⟨g, 0, none⟩) 1 (rlCells [(x, y, z)]) := by
  subst hg
  refine ⟨rfl, fun _ => ⟨_, rfl, by simp, fun j u hu => ?_⟩⟩
  have e : (⟨w.heap.size, 0, none⟩ : Addr).add j = ⟨w.heap.size, j, none⟩ := by unfold Addr.add; split <;> simp_all
  rw [e, World.cell?_alloc_new]
  simpa [rlCells] using hu
/-- append of one rule that has just been laid. -/
theorem wpList_append_Ru (w : World) {ops : Array Oper} {rest : List Oper} {o : Oper} {a : Act} {Q : Exit → Act → World → Prop} (hgd : o.guard = none) (s x : Operand)
    (ho : o.op = .call { callee := .builtin .append, args := #[s, x], argTypes := #[61, 61] })
    (base : Nat) (v : Value) (n : Nat) (l : List Ru) (hs : a.eval s = v) (B : Nat) (A : Option Addr) (c : Nat) (p : Ru) (hx : a.eval x = .slice A 1 c)
    (hown : w.ownsRow base 110 3 v n (rlCells l)) (hr : Reads w B 3 A 1 (rlCells [p])) (hn : n ≤ 1000000) (hbase : base ≤ w.heap.size)
    (h : ∀ A' c' w', w'.ownsRow base 110 3 (.slice A' (n + 1) c') (n + 1) (rlCells (l ++ [p])) → w.grownBy w' v.ownBlock → (Value.ownBlock (.slice A' (n + 1) c') = v.ownBlock ∨ Value.ownBlock (.slice A' (n + 1) c') = some w.heap.size) → wpList Tryz.prog ops Q rest (a.put o.dst (.slice A' (n + 1) c')) w') : wpList Tryz.prog ops Q (o :: rest) a w := by
  obtain ⟨i0, hi, hz, hs2, hb⟩ := info_R
  refine wpList_append_sl w hgd s x 61 ho base 110 i0 _ 3 24 Tryz.underlying61 hi hz hs2 hb rfl (by decide) v n (rlCells l) hs hown B A 1 c (rlCells [p]) hx hr (rlCells_one _) (by unfold maxLen; omega) (by omega) hbase ?_
  rw [← rlCells_append]
  exact h

def Own44 (rs : List Ru) (w : World) (e : Ending) (w' : World) : Prop := ∃ A c, e = .returned (.slice A rs.length c) ∧ RlsAt w' w'.heap.size A rs ∧ Ext w w'
set_option maxRecDepth 100000 in
set_option maxHeartbeats 2000000 in
theorem own44_any (A : Option Addr) (c n : Nat) (rs : List Ru) (w : World) (h : RlsAt w w.heap.size A rs) (hn : n = rs.length) (hn' : n ≤ 1000000) :
    Calls Tryz.prog 28 #[.slice A n c] w (Own44 rs w) := by
  have HN := hide hn
  have HRS := hide h
  clear hn h
  go_enter Tryz.func28, Tryz.ntmps28
  go_wp2_with fail
  go_loopw [4, 3] (fun i o wr => ∃ (k : Nat) (Ao : Option Addr) (co : Nat), k ≤ n ∧ i = .int .i64 (k : Int) ∧ o = .slice Ao k co ∧ wr.ownsRow w.heap.size 110 3 (.slice Ao k co) k (rlCells (rs.take k)) ∧ Ext w wr) (fun i _ _ => n - (intOf i).toNat)
  case atStart => exact ⟨0, none, 0, Nat.zero_le _, rfl, rfl, World.ownsRow_nil _ _ _ _, Ext.rfl' w⟩
  case round =>
    obtain ⟨k, Ao, co, hk, rfl, rfl, hO, hE⟩ := hrel
    have HO := hide hO
    have HE := hide hE
    by_cases hlt : k < n
    · have hkl : k < rs.length := by rw [← HN.out]; exact hlt
      obtain ⟨b, o, rfl, hbs, hcell⟩ := HRS.out.cell (by omega)
      obtain ⟨p0, p1, p2⟩ := hcell k hkl
      have q0 := (hE.cell (p := ⟨b, o + k * 3, none⟩) hbs).trans p0
      have q1 := (hE.cell (p := ⟨b, o + k * 3 + 1, none⟩) hbs).trans p1
      have q2 := (hE.cell (p := ⟨b, o + k * 3 + 2, none⟩) hbs).trans p2
      have hst : rs.take (k + 1) = rs.take k ++ [rl rs k] := by
        rw [List.take_succ_eq_append_getElem hkl]
        congr
        unfold rl
        rw [List.getD_eq_getElem?_getD, List.getElem?_eq_getElem hkl]
        rfl
      obtain ⟨r, hr⟩ : ∃ r, r = rl rs k := ⟨_, rfl⟩
      rw [← hr] at q0 q1 q2 hst
      obtain ⟨r0, r1, r2⟩ := r
      simp only at q0 q1 q2
      have HST := hide hst
      have i0 : (0 : Int) ≤ (k : Int) := by omega
      have i1 : (k : Int) < (n : Int) := by omega
      have hsz := hE.size
      clear hcell p0 p1 p2 hr hst hO hE hkl
      go_wp2_with (at_builtin; refine wpList_append_Ru _ rfl _ _ rfl w.heap.size _ k (rs.take k) rfl (wr.heap.size + 1) (some ⟨wr.heap.size, 0, none⟩) 1 (r0, r1, r2) rfl (HO.out.alloc _) (reads_rule _ _ _ _ _ _ rfl) (by omega) (by simp; omega) ?_)
      intro A3 c3 w3 hown3 hgrow3 _
      have HE3 := hide (grown_ext' (w := w) (wr := wr) (base := w.heap.size) HE.out ((Ext.rfl' wr).alloc (Nat.le_refl _) _) hgrow3 HO.out (Nat.le_refl _))
      rw [← HST.out] at hown3
      have HO3 := hide hown3
      clear hown3 hgrow3
      go_wp2_with fail
      go_roundw
      case rel => exact ⟨k + 1, A3, c3, by omega, by go_num, rfl, HO3.out, HE3.out⟩
      case measure => simp [intOf]; omega
    · obtain rfl : k = n := by omega
      have hO' := HO.out
      rw [List.take_of_length_le (by rw [← HN.out]; exact Nat.le_refl _)] at hO'
      have HO' := hide hO'
      clear hO hE hO'
      go_wp2_with fail
      go_ret
      refine ⟨Ao, co, by rw [← HN.out]; rfl, ?_, HE.out⟩
      unfold RlsAt
      rw [← HN.out]
      exact Reads.of_own HO'.out
end Go.Proofs.YtpjlhpaenmfieaaGreat
