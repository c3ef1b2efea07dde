/- The document's functions of layer 11: Find, pairs, Leq. -/
import Derived.Test.YtpjlhpaenmfieaaGreatLatE
import Derived.Deep.RegionHeld3
namespace Go.Proofs.YtpjlhpaenmfieaaGreat
open Go.RowKit

set_option maxRecDepth 100000 in
set_option maxHeartbeats 1000000 in
theorem wFind_any (A : Option Addr) (c n : Nat) (ws : List Wd) (s : ByteArray) (w : World) (h : WdsAt w w.heap.size A ws) (hn : n = ws.length) (hl : n ≤ 9223372036854775807) :
    Calls Tryz.prog 44 #[.slice A n c, .string s] w (fun e w' => e = .returned (.int .i64 (findL (nms ws) s)) ∧ w = w') := by
  have HN := hide hn
  have H := hide h
  clear hn h
  go_enter Tryz.func44, Tryz.ntmps44
  go_wp2_with fail
  go_loop [5] (fun i => ∃ k : Nat, k ≤ n ∧ i = .int .i64 k ∧ Hid (∀ j (hj : j < (nms ws).length), j < k → (nms ws)[j] ≠ s)) (fun i => n - (intOf i).toNat)
  case atStart => exact ⟨0, Nat.zero_le _, rfl, fun j _ hj => absurd hj (by omega)⟩
  case round =>
    obtain ⟨k, hk, rfl, HA⟩ := hrel
    by_cases hlt : k < n
    · have hkl : k < (nms ws).length := by rw [nms_length, ← HN.out]; exact hlt
      obtain ⟨b, o, rfl, _, hcell⟩ := H.out.cell (by rw [← HN.out]; omega)
      have hp1 := (hcell k (by rw [← HN.out]; exact hlt)).1
      obtain ⟨x, hx⟩ : ∃ x, x = wNm ws k := ⟨_, rfl⟩
      rw [← hx] at hp1
      have HX := hide (show x = (nms ws)[k] by rw [nms_at]; exact hx)
      clear hcell hx
      cases he : (x.toList == s.toList) with
      | true =>
        have hf := findIdx_hit hkl HA.out (by rw [← HX.out]; have := str_eq x s; rw [he] at this; simpa using this.symm)
        have HF := hide hf
        clear hf
        go_wp2_with fail
        go_ret
        exact ⟨ret_int (by unfold findL; rw [HF.out]), rfl⟩
      | false =>
        have hn : ∀ j (hj : j < (nms ws).length), j < k + 1 → (nms ws)[j] ≠ s := fun j hj hjk => by
          by_cases e : j = k
          · subst e; rw [← HX.out]; have := str_eq x s; rw [he] at this; simpa using this.symm
          · exact HA.out j hj (by omega)
        have HNN := hide hn
        clear hn HA
        go_wp2_with fail
        go_round
        case rel => exact ⟨k + 1, by omega, by go_num, HNN⟩
        case measure => simp [intOf]; omega
    · obtain rfl : k = n := by omega
      have hf := findIdx_miss fun j hj => HA.out j hj (by rw [nms_length, ← HN.out] at hj; exact hj)
      have HF := hide hf
      clear hf
      go_wp2_with fail
      go_ret
      exact ⟨ret_int (by unfold findL; rw [HF.out]), rfl⟩

/-- append of one pair, inside a region that draws its order. -/
theorem step_append_P (w : World) {ops : Array Oper} {o : Oper} {a : Act} {K : Act → World → Prop} {Q : Exit → Act → World → Prop} {E : Prop} (hgd : o.guard = none) (s x : Operand)
    (ho : o.op = .call { callee := .builtin .append, args := #[s, x], argTypes := #[79, 79] })
    (base : Nat) (v : Value) (n : Nat) (l : List (Int × Int)) (hs : a.eval s = v) (B : Nat) (A : Option Addr) (c : Nat) (p : Int × Int) (hx : a.eval x = .slice A 1 c)
    (hown : w.ownsRow base 123 2 v n (pairCells l)) (hr : Reads w B 2 A 1 (pairCells [p])) (hn : n ≤ 1000000) (hbase : base ≤ w.heap.size)
    (h : ∀ A' c' w', w'.ownsRow base 123 2 (.slice A' (n + 1) c') (n + 1) (pairCells (l ++ [p])) → w.grownBy w' v.ownBlock → K (a.put o.dst (.slice A' (n + 1) c')) w') :
    if Region.wanted o (yielded ops a.tmps) = true then Oper.wp Tryz.prog o a w K Q else E := by
  obtain ⟨i0, hi, hz, hs2, hb⟩ := info_pair
  refine step_append_any w hgd s x 79 ho base 123 i0 _ 2 16 Tryz.underlying79 hi hz hs2 hb rfl (by decide) v n (pairCells l) hs hown B A 1 c (pairCells [p]) hx hr (pairCells_one _) (by unfold maxLen; omega) (by omega) hbase ?_
  intro v' w' h2 h3 _
  have hv : ∃ A' c', v' = .slice A' (n + 1) c' := by
    rcases h2.2 with ⟨e, h0⟩ | ⟨g, cap, cur, e, _⟩
    · omega
    · exact ⟨_, _, e⟩
  obtain ⟨A', c', hv⟩ := hv
  rw [hv] at h2 ⊢
  rw [← pairCells_append] at h2
  exact h A' c' w' h2 h3

def PairsPost (ws : List Wd) (os : List (Wd × Wd)) (w : World) (e : Ending) (w' : World) : Prop :=
  ∃ A c, e = .returned (.slice A os.length c) ∧ PairsAt w' w'.heap.size A (prs ws os) ∧ Ext w w'
set_option maxRecDepth 100000 in
set_option maxHeartbeats 2000000 in
theorem refPairs_any (A : Option Addr) (c n : Nat) (ws : List Wd) (A2 : Option Addr) (c2 m : Nat) (os : List (Wd × Wd)) (w : World) (h : WdsAt w w.heap.size A ws) (hn : n = ws.length) (hl : n ≤ 9223372036854775807) (h2 : OdsAt w w.heap.size A2 os) (hm : m = os.length) (hle : m ≤ 1000) :
    Calls Tryz.prog 46 #[.slice A n c, .slice A2 m c2] w (PairsPost ws os w) := by
  have HM := hide hm
  have HW := hide h2
  have HF := hide (fun (w1 : World) (s : ByteArray) (hE : Ext w w1) => wFind_any A c n ws s w1 (h.ext hE) hn hl)
  clear hm h2 h hn
  go_enter Tryz.func46, Tryz.ntmps46
  go_wp2_with fail
  go_loopw [6, 5] (fun i o wr => ∃ (k : Nat) (Ao : Option Addr) (co : Nat), k ≤ m ∧ i = .int .i64 k ∧ o = .slice Ao k co ∧ Ext w wr ∧ wr.ownsRow w.heap.size 123 2 (.slice Ao k co) k (pairCells ((prs ws os).take k))) (fun i _ _ => m - (intOf i).toNat)
  case atStart => exact ⟨0, none, 0, Nat.zero_le _, rfl, rfl, Ext.rfl' w, World.ownsRow_nil _ _ _ _⟩
  case round =>
    obtain ⟨k, Ao, co, hk, rfl, rfl, hE, hO⟩ := hrel
    have HE := hide hE
    have HO := hide hO
    by_cases hlt : k < m
    · have hkl : k < os.length := by rw [← HM.out]; exact hlt
      obtain ⟨b, o, rfl, hbs, hcell⟩ := HW.out.cell (by omega)
      obtain ⟨hp1, _, hp3, _⟩ := hcell k hkl
      have hst := prs_take ws os k hkl
      obtain ⟨x, hx⟩ : ∃ x, x = (lo os k).1 := ⟨_, rfl⟩
      obtain ⟨y, hy⟩ : ∃ x, x = (hi os k).1 := ⟨_, rfl⟩
      rw [← hx] at hp1 hst
      rw [← hy] at hp3 hst
      have q1 : wr.cell? ⟨b, o + k * 4, none⟩ = some (.string x) := (hE.cell (p := ⟨b, o + k * 4, none⟩) hbs).trans hp1
      have q3 : wr.cell? ⟨b, o + k * 4 + 2, none⟩ = some (.string y) := (hE.cell (p := ⟨b, o + k * 4 + 2, none⟩) hbs).trans hp3
      have lb : b < wr.heap.size := Nat.lt_of_lt_of_le hbs hE.size
      have HF1 := hide (fun w1 h => HF.out w1 x h)
      have HF2 := hide (fun w1 h => HF.out w1 y h)
      obtain ⟨f1, hf1⟩ : ∃ f, f = findL (nms ws) x := ⟨_, rfl⟩
      obtain ⟨f2, hf2⟩ : ∃ f, f = findL (nms ws) y := ⟨_, rfl⟩
      rw [← hf1] at HF1 hst
      rw [← hf2] at HF2 hst
      have HST := hide hst
      have HC := hide (And.intro hp1 hp3)
      have i0 : (0 : Int) ≤ (k : Int) := by omega
      have i1 : (k : Int) < (m : Int) := by omega
      clear hst hx hy hf1 hf2 hcell hp1 hp3 hE hO
      go_wp2_with fail
      go_region_held3 (fun w' => w'.cell? ⟨b, o + k * 4, none⟩ = some (.string x) ∧ w'.cell? ⟨b, o + k * 4 + 2, none⟩ = some (.string y)) (go_keep)
        ((first
          | (refine step_append_P _ rfl _ _ rfl w.heap.size _ k ((prs ws os).take k) rfl (wr.heap.size + 1) _ 1 (f1, f2) rfl (by first | exact (HO.out.alloc _).drew | exact (HO.out.drew).alloc _) (by first | exact (reads_pair _ _ _ _ _ rfl) | exact (reads_pair _ _ _ _ _ rfl).drew) (by omega) (by have := HE.out.size; simp; omega) ?_
             intro A3 c3 w3 hown3 hgrow3
             have HE3 := hide (grown_ext' (w := w) (wr := wr) (base := w.heap.size) HE.out (by first | exact Ext.drew' ((Ext.rfl' wr).alloc (Nat.le_refl _) _) | exact ((Ext.rfl' wr).drew').alloc (Nat.le_refl _) _) hgrow3 HO.out (Nat.le_refl _))
             rw [← HST.out] at hown3
             have HO3 := hide hown3
             have k1 : w3.cell? ⟨b, o + k * 4, none⟩ = some (.string x) := (HE3.out.cell (p := ⟨b, o + k * 4, none⟩) hbs).trans HC.out.1
             have k2 : w3.cell? ⟨b, o + k * 4 + 2, none⟩ = some (.string y) := (HE3.out.cell (p := ⟨b, o + k * 4 + 2, none⟩) hbs).trans HC.out.2
             clear hown3 hgrow3)
          | (go_at_call 44
             with_reducible refine (HF1.out _ HE.out.drew').mono ?_
             rintro e w' ⟨rfl, rfl⟩)
          | (go_at_call 44
             with_reducible refine (HF2.out _ HE.out.drew').mono ?_
             rintro e w' ⟨rfl, rfl⟩)))
      all_goals
        go_wp2_with fail
        go_roundw
        case rel => exact ⟨k + 1, A3, c3, by omega, by go_num, rfl, HE3.out, HO3.out⟩
        case measure => simp [intOf]; omega
    · obtain rfl : k = m := by omega
      have hlen : k = (prs ws os).length := by rw [prs_length]; exact HM.out
      rw [List.take_of_length_le (by omega)] at hO
      have HO' := hide hO
      have HL := hide hlen
      clear hlen hO hE
      go_wp2_with fail
      go_ret
      refine ⟨Ao, co, by rw [← HM.out]; rfl, ?_, HE.out⟩
      unfold PairsAt
      rw [← HL.out]
      exact Reads.of_own HO'.out

def LeqPost (ws : List Wd) (os : List (Wd × Wd)) (w : World) (e : Ending) (w' : World) : Prop :=
  ∃ A c, e = .returned (.slice A ws.length c) ∧ MatAt w' w'.heap.size A (leads ws.length (prs ws os)) ∧ Ext w w'
theorem refLeq_any (A : Option Addr) (c n : Nat) (ws : List Wd) (A2 : Option Addr) (c2 m : Nat) (os : List (Wd × Wd)) (w : World) (h : WdsAt w w.heap.size A ws) (hn : n = ws.length) (hl : n ≤ 64) (h2 : OdsAt w w.heap.size A2 os) (hm : m = os.length) (hle : m ≤ 1000) (hok : okPs ws.length (prs ws os) = true) :
    Calls Tryz.prog 13 #[.slice A n c, .slice A2 m c2] w (LeqPost ws os w) := by
  have HP := hide (refPairs_any A c n ws A2 c2 m os w h hn (by omega) h2 hm hle)
  have HN := hide hn
  have HM := hide hm
  have HOK := hide hok
  clear h h2 hn hm hok
  go_enter Tryz.func13, Tryz.ntmps13
  go_wp2_with fail
  refine HP.out.mono ?_
  rintro e w1 ⟨A3, c3, rfl, hP, hE⟩
  have hlen : (prs ws os).length = os.length := prs_length ws os
  have hL := refLeads_any n hl A3 c3 (prs ws os) w1 hP (by have := HM.out; omega) (by rw [HN.out]; exact HOK.out)
  rw [hlen, ← HM.out, leads_length] at hL
  have HL := hide hL
  have HE := hide hE
  rw [← HM.out]
  clear hL hE hlen hP
  go_wp2_with fail
  refine HL.out.mono ?_
  rintro e w2 ⟨A4, c4, rfl, hM, hE2⟩
  have HE2 := hide (HE.out.trans' hE2)
  have HMM := hide hM
  clear hE2 hM
  go_wp2_with fail
  go_ret
  exact ⟨A4, c4, by rw [← HN.out]; rfl, by rw [← HN.out]; exact HMM.out, HE2.out⟩
end Go.Proofs.YtpjlhpaenmfieaaGreat
