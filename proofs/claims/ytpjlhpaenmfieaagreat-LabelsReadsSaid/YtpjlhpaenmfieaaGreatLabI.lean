/- The document's functions of layer 12: Levels, Highest. -/
import Derived.Test.YtpjlhpaenmfieaaGreatLabAll
import Derived.Test.YtpjlhpaenmfieaaGreatRelAll
namespace Go.Proofs.YtpjlhpaenmfieaaGreat
open Go.RowKit

set_option maxRecDepth 100000 in
set_option maxHeartbeats 1000000 in
theorem levels_any (A : Option Addr) (cp n : Nat) (A2 : Option Addr) (c2 m : Nat) (x : List Int) (w : World) (hx : IntAt w w.heap.size A2 x) (hm : m = x.length) (hm' : m ≤ 1000000) (hn' : n ≤ 1000000) :
    Calls Tryz.prog 15 #[.slice A n cp, .slice A2 m c2] w (SeesPost (lvl n x) w) := by
  have HM := hide hm
  have HX := hide hx
  clear hm hx
  go_enter Tryz.func15, Tryz.ntmps15
  go_wp2_with fail
  go_loopw [6, 5] (fun i o wr => ∃ (k q : Nat) (Ao : Option Addr) (co : Nat), k ≤ m ∧ i = .int .i64 (k : Int) ∧ o = .slice Ao q co ∧ q ≤ k ∧ wr.ownsRow w.heap.size 3 1 (.slice Ao q co) q (natCells (lvl n (x.take k))) ∧ Ext w wr ∧ Hid (q = (lvl n (x.take k)).length)) (fun i _ _ => m - (intOf i).toNat)
  case atStart => exact ⟨0, 0, none, 0, Nat.zero_le _, rfl, rfl, Nat.le_refl _, World.ownsRow_nil _ _ _ _, Ext.rfl' w, rfl⟩
  case round =>
    obtain ⟨k, q, Ao, co, hk, rfl, rfl, hqk, hO, hE, HQ⟩ := hrel
    have HO := hide hO
    have HE := hide hE
    by_cases hlt : k < m
    · have hkl : k < x.length := by rw [← HM.out]; exact hlt
      obtain ⟨b, o, rfl, hbs, hcell⟩ := HX.out.cell (by omega)
      have q1 := (hE.cell (p := ⟨b, o + k, none⟩) hbs).trans (hcell k hkl)
      have hst : lvl n (x.take (k + 1)) = if hasI n x[k] then lvl n (x.take k) ++ [x[k].toNat] else lvl n (x.take k) := by
        rw [List.take_succ_eq_append_getElem hkl, lvl_append]
      obtain ⟨i, hi⟩ : ∃ i, i = x[k] := ⟨_, rfl⟩
      rw [← hi] at q1 hst
      have i0 : (0 : Int) ≤ (k : Int) := by omega
      have i1 : (k : Int) < (m : Int) := by omega
      have hsz := hE.size
      clear hcell hi hE hO
      rcases hasI_cases n i with ⟨j, rfl, hj⟩ | ho
      · rw [hasI_nat hj, if_pos rfl, Int.toNat_natCast] at hst
        have HS := hide hst
        have i2 : (0 : Int) ≤ (j : Int) := by omega
        have i3 : (j : Int) < (n : Int) := by omega
        clear hst
        go_wp2_with (at_builtin; refine wpList_append_Nat _ rfl _ _ rfl w.heap.size _ q (lvl n (x.take k)) rfl wr.heap.size j _ rfl (HO.out.alloc _) (reads_new _ _ _) (by omega) (by simp; omega) ?_)
        intro A3 c3 w3 hown3 hgrow3 _
        have HE3 := hide (grown_ext' (w := w) (wr := wr) (base := w.heap.size) HE.out ((Ext.rfl' wr).alloc (Nat.le_refl _) _) hgrow3 HO.out (Nat.le_refl _))
        rw [← HS.out] at hown3
        have HO3 := hide hown3
        clear hown3 hgrow3
        go_wp2_with fail
        go_roundw
        case rel => exact ⟨k + 1, q + 1, A3, c3, by omega, by go_num, rfl, by omega, HO3.out, HE3.out, by rw [HS.out, List.length_append, ← HQ.out]; rfl⟩
        case measure => simp [intOf]; omega
      · rw [hasI_out ho, if_neg (by decide)] at hst
        have HO2 := HO.out
        rw [← hst] at HO2 HQ
        have HO3 := hide HO2
        clear hst HO2
        by_cases h0 : i < 0
        · have h0' : ¬ (0 ≤ i) := by omega
          clear ho
          go_wp2_with fail
          go_roundw
          case rel => exact ⟨k + 1, q, Ao, co, by omega, by go_num, rfl, by omega, HO3.out, HE.out, HQ⟩
          case measure => simp [intOf]; omega
        · have h0' : 0 ≤ i := by omega
          have h1' : ¬ (i < (n : Int)) := by omega
          clear ho h0
          go_wp2_with fail
          go_roundw
          case rel => exact ⟨k + 1, q, Ao, co, by omega, by go_num, rfl, by omega, HO3.out, HE.out, HQ⟩
          case measure => simp [intOf]; omega
    · obtain rfl : k = m := by omega
      have hO' := HO.out
      rw [List.take_of_length_le (by rw [← HM.out]; exact Nat.le_refl _)] at hO' HQ
      have HO' := hide hO'
      clear hO hE hO'
      go_wp2_with fail
      go_ret
      refine ⟨Ao, co, by rw [← HQ.out]; rfl, ?_, HE.out⟩
      unfold NatAt
      rw [← HQ.out]
      exact Reads.of_own HO'.out

theorem take_contains {l : List Nat} {k c : Nat} (hk : k < l.length) : (l.take (k + 1)).contains c = ((l.take k).contains c || (l[k] == c)) := by
  rw [Bool.eq_iff_iff, Bool.or_eq_true, List.contains_iff_mem, List.contains_iff_mem, List.take_succ_eq_append_getElem hk, List.mem_append, List.mem_singleton, beq_iff_eq]
  exact or_congr Iff.rfl eq_comm
theorem take_above {M : Nat → Nat → Bool} {l : List Nat} {k c : Nat} (hk : k < l.length) : LatM.above M (l.take (k + 1)) c = (LatM.above M (l.take k) c || (l[k] != c && M c l[k])) := by
  unfold LatM.above
  rw [List.take_succ_eq_append_getElem hk, List.any_append]
  simp

set_option maxRecDepth 100000 in
set_option maxHeartbeats 2000000 in
theorem refHigh_any (A : Option Addr) (cp n : Nat) (M : List (List Bool)) (A2 : Option Addr) (c2 m : Nat) (l : List Nat) (w : World) (h : MatAt w w.heap.size A M) (hsq : ∀ r ∈ M, r.length = M.length) (hn : n = M.length) (hn' : n ≤ 1000000) (hN : NatAt w w.heap.size A2 l) (hm : m = l.length) (hm' : m ≤ 1000000) (hlt : ∀ k ∈ l, k < n) :
    Calls Tryz.prog 16 #[.slice A n cp, .slice A2 m c2] w (SeesPost (LatM.highTo (mat M) l n) w) := by
  have HROW := hide (fun (h0 : 0 < n) => (by have := h.form hsq (by omega); rw [← hn] at this; exact this : ∃ b o, A = some ⟨b, o, none⟩ ∧ b < w.heap.size ∧ ∀ k, k < n → ∃ bk ok ck, w.cell? ⟨b, o + k, none⟩ = some (.slice (some ⟨bk, ok, none⟩) n ck) ∧ bk < w.heap.size ∧ ∀ j, j < n → w.cell? ⟨bk, ok + j, none⟩ = some (.bool (mat M k j))))
  obtain ⟨N, hN'⟩ : ∃ N, N = mat M := ⟨_, rfl⟩
  rw [← hN'] at HROW ⊢
  have HM := hide hm
  have HL := hide hN
  have HLT := hide hlt
  clear h hsq hn hN hm hlt hN'
  go_enter Tryz.func16, Tryz.ntmps16
  go_wp2_with fail
  go_loopw [6, 5] (fun i o wr => ∃ (c q : Nat) (Ao : Option Addr) (co : Nat), c ≤ n ∧ i = .int .i64 (c : Int) ∧ o = .slice Ao q co ∧ q ≤ c ∧ wr.ownsRow w.heap.size 3 1 (.slice Ao q co) q (natCells (LatM.highTo N l c)) ∧ Ext w wr ∧ Hid (q = (LatM.highTo N l c).length)) (fun i _ _ => n - (intOf i).toNat)
  case atStart => exact ⟨0, 0, none, 0, Nat.zero_le _, rfl, rfl, Nat.le_refl _, World.ownsRow_nil _ _ _ _, Ext.rfl' w, rfl⟩
  case round =>
    obtain ⟨c, q, Ao, co, hc, rfl, rfl, hqc, hO, hE, HQ⟩ := hrel
    have HO := hide hO
    have HE := hide hE
    clear hO hE
    by_cases hcn : c < n
    · have j0 : (0 : Int) ≤ (c : Int) := by omega
      have j1 : (c : Int) < (n : Int) := by omega
      go_wp2_with fail
      go_loopw [9, 7, 8] (fun i u v wx => ∃ (k : Nat) (a b : Bool), k ≤ m ∧ i = .int .i64 (k : Int) ∧ u = .bool a ∧ v = .bool b ∧ Ext wr wx ∧ Hid (a = (l.take k).contains c) ∧ Hid (b = LatM.above N (l.take k) c)) (fun i _ _ _ => m - (intOf i).toNat)
      case atStart => exact ⟨0, false, false, Nat.zero_le _, rfl, rfl, rfl, Ext.rfl' _, rfl, rfl⟩
      case round =>
        obtain ⟨k, a, b, hk, rfl, rfl, rfl, hEx, HA, HB⟩ := hrel
        have HEx := hide hEx
        clear hEx
        by_cases hkm : k < m
        · have hkl : k < l.length := by rw [← HM.out]; exact hkm
          obtain ⟨bl, ol, rfl, hbs, hcell⟩ := HL.out.cell (by omega)
          have q1 := ((HE.out.trans' HEx.out).cell (p := ⟨bl, ol + k, none⟩) hbs).trans (hcell k hkl)
          have hin := HLT.out _ (List.getElem_mem hkl)
          obtain ⟨b0, o0, rfl, hb0, hrow⟩ := HROW.out (by omega)
          obtain ⟨bc, oc, cc, f1, hbc, g1⟩ := hrow c hcn
          have r1 := ((HE.out.trans' HEx.out).cell (p := ⟨b0, o0 + c, none⟩) hb0).trans f1
          have r2 := ((HE.out.trans' HEx.out).cell (p := ⟨bc, oc + l[k], none⟩) hbc).trans (g1 l[k] hin)
          have hs1 := take_contains (c := c) hkl
          have hs2 := take_above (M := N) (c := c) hkl
          rw [← HA.out] at hs1
          rw [← HB.out] at hs2
          obtain ⟨i, hi⟩ : ∃ i, i = l[k] := ⟨_, rfl⟩
          rw [← hi] at q1 hin r2 hs1 hs2
          obtain ⟨z, hz⟩ : ∃ z, z = N c i := ⟨_, rfl⟩
          rw [← hz] at r2 hs2
          have HS1 := hide hs1
          have HS2 := hide hs2
          have i0 : (0 : Int) ≤ (k : Int) := by omega
          have i1 : (k : Int) < (m : Int) := by omega
          have i2 : (0 : Int) ≤ (i : Int) := by omega
          have i3 : (i : Int) < (n : Int) := by omega
          clear hcell hrow f1 g1 hs1 hs2 hi hz HA HB hbs hb0 hbc hin
          by_cases hic : i = c
          · subst hic
            have HA2 := hide (show true = (l.take (k + 1)).contains i by rw [HS1.out]; simp)
            have HB2 := hide (show b = LatM.above N (l.take (k + 1)) i by rw [HS2.out]; simp)
            have e1 : ((i : Int) == (i : Int)) = true := by simp
            have e2 : ((i : Int) != (i : Int)) = false := by simp
            clear HS1 HS2
            cases a <;> cases b
            all_goals
              go_wp2_with fail
              go_quiet (fail)
              go_wp2_with fail
              go_roundw
              case rel => exact ⟨k + 1, true, _, by omega, by go_num, rfl, rfl, below_drewN HEx.out _, HA2, HB2⟩
              case measure => simp [intOf]; omega
          · have e1 : ((i : Int) == (c : Int)) = false := by rw [beq_eq_false_iff_ne]; omega
            have e2 : ((i : Int) != (c : Int)) = true := by rw [bne_iff_ne]; omega
            have e3 : (i == c) = false := by rw [beq_eq_false_iff_ne]; exact hic
            have HA2 := hide (show a = (l.take (k + 1)).contains c by rw [HS1.out, e3, Bool.or_false])
            have HB2 := hide (show (b || z) = LatM.above N (l.take (k + 1)) c by rw [HS2.out, show (i != c) = true by rw [bne_iff_ne]; exact hic, Bool.true_and])
            clear HS1 HS2 e3 hic
            cases a <;> cases b
            all_goals
              go_wp2_with fail
              go_quiet (fail)
              go_wp2_with fail
              go_roundw
              case rel => exact ⟨k + 1, _, _, by omega, by go_num, rfl, rfl, below_drewN HEx.out _, HA2, HB2⟩
              case measure => simp [intOf]; omega
        · obtain rfl : k = m := by omega
          have hHA := HA.out
          have hHB := HB.out
          rw [List.take_of_length_le (by rw [← HM.out]; exact Nat.le_refl _)] at hHA hHB
          have HA2 := hide hHA
          have HB2 := hide hHB
          have HO2 := hide (own_ext HO.out HEx.out)
          have HE2 := hide (HE.out.trans' HEx.out)
          have hsz := HE2.out.size
          clear hHA hHB HA HB
          cases a with
          | false =>
            have hs := LatM.highTo_no (M := N) (.inl HA2.out.symm)
            have hO3 := HO2.out
            rw [← hs] at hO3 HQ
            have HO3 := hide hO3
            clear hs hO3
            go_wp2_with fail
            go_roundw
            case rel => exact ⟨c + 1, q, Ao, co, by omega, by go_num, rfl, by omega, HO3.out, HE2.out, HQ⟩
            case measure => simp [intOf]; omega
          | true =>
            cases b with
            | true =>
              have hs := LatM.highTo_no (M := N) (l := l) (k := c) (.inr HB2.out.symm)
              have hO3 := HO2.out
              rw [← hs] at hO3 HQ
              have HO3 := hide hO3
              clear hs hO3
              go_wp2_with fail
              go_roundw
              case rel => exact ⟨c + 1, q, Ao, co, by omega, by go_num, rfl, by omega, HO3.out, HE2.out, HQ⟩
              case measure => simp [intOf]; omega
            | false =>
              have HS := hide (LatM.highTo_yes (M := N) HA2.out.symm HB2.out.symm)
              go_wp2_with (at_builtin; refine wpList_append_Nat _ rfl _ _ rfl w.heap.size _ q (LatM.highTo N l c) rfl _ c _ rfl (HO2.out.alloc _) (reads_new _ _ _) (by omega) (by simp; omega) ?_)
              intro A3 c3 w3 hown3 hgrow3 _
              have HE3 := hide (grown_ext' (w := w) (base := w.heap.size) HE2.out ((Ext.rfl' _).alloc (Nat.le_refl _) _) hgrow3 HO2.out (Nat.le_refl _))
              rw [← HS.out] at hown3
              have HO3 := hide hown3
              clear hown3 hgrow3
              go_wp2_with fail
              go_roundw
              case rel => exact ⟨c + 1, q + 1, A3, c3, by omega, by go_num, rfl, by omega, HO3.out, HE3.out, by rw [HS.out, List.length_append, ← HQ.out]; rfl⟩
              case measure => simp [intOf]; omega
    · obtain rfl : c = n := by omega
      go_wp2_with fail
      go_ret
      refine ⟨Ao, co, by rw [← HQ.out]; rfl, ?_, HE.out⟩
      unfold NatAt
      rw [← HQ.out]
      exact Reads.of_own HO.out
end Go.Proofs.YtpjlhpaenmfieaaGreat
